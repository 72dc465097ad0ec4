/- Joined. -/
import Derived.Test.YtinhjbnljbmbcaaGreatQ09
import Derived.Test.YtinhjbnljbmbcaaGreatQ03
namespace Go.Proofs.YtinhjbnljbmbcaaGreat
open Go Go.RowKit
set_option linter.unusedSimpArgs false
set_option linter.unusedVariables false
set_option maxHeartbeats 4000000
set_option maxRecDepth 100000
section
attribute [local go_sem] List.length_map rowAt_n nrow rowAt_t trow rowAt_i irow
attribute [local go_sem] rowAt_e rowAt_tm rowAt_dc rowAt_ru tmrow dcrow rurow
attribute [local go_sem] iD_all iD_len rw2_0 rw2_1 rw1_0 Int.toNat_one
theorem rnd14_w (e : Ex) : PCall Tryz.prog (.func 205) [.ag [.int .i64 e.op, .int .i64 e.num, .sl 3 (e.kids.map erow) .no]] (.bool (opB e.op e.num e.kids.length)) := by
 refine PCall.ok fun hok => ?_
 simp only [okAll, D.ok, okRows, and_true, true_and, lim_eq, inR_i64', inR_i32', inR_u8', inR_u16', inR_u64'] at hok
 obtain ⟨h1, h2, hl, hr⟩ := hok; rw [List.length_map] at hl
 refine PCall.le ?_
 refine fn_ Tryz.func205 (by rfl) (by rfl) (rs := [.tmp 2]) (by rfl) (by simp [Tryz.f205]) ?_
 refine sr_ [1] [1] [] fun κ ξ hκ hξ => ?_
 simp +decide only [go_sem]
 refine hκ _ _ ?_
 refine sr_ [1, 3] [] [] fun κ ξ hκ hξ => ?_
 simp +decide only [go_sem]
 refine hκ _ _ ?_
 refine sq ?_
 refine sr_ [1, 3, 8] [] [] fun κ ξ hκ hξ => ?_
 simp +decide only [go_sem]
 refine hκ _ _ ?_
 refine bl ?_
 refine sr_ [1, 3, 8, 9] [] [] fun κ ξ hκ hξ => ?_
 simp +decide only [go_sem]
 refine hκ _ _ ?_
 refine cd_ (fun c0 => ?_) (fun c0 => ?_)
 ·try simp only [go_sem] at c0
  refine sr_ [2] [] [(2, 13)] fun κ ξ hκ hξ => ?_
  simp +decide only [go_sem, c0]
  refine vo_gc ?_
  simp +decide only [go_sem]
  refine gcF (rin14_w _ _ _) ?_
  simp +decide only [go_sem]
  refine hκ _ _ ?_
  refine rt ?_
  refine retE ?_
  simp +decide only [go_sem, resD, resV, c0]
  first
  | (exfalso; omega)
  | (congr 1; unfold opB; (repeat rw [if_neg (by omega)]); done)
  | (congr 1
     unfold opB
     (repeat (first | rw [if_pos (by omega)] | rw [if_neg (by omega)]))
     first | rfl | (rw [Bool.eq_iff_iff]; simp only [Bool.and_eq_true, decide_eq_true_eq]; omega))
 ·try simp only [go_sem] at c0
  refine sr_ [1, 3, 8, 18] [] [] fun κ ξ hκ hξ => ?_
  simp +decide only [go_sem, c0]
  refine hκ _ _ ?_
  refine cd_ (fun c1 => ?_) (fun c1 => ?_)
  ·try simp only [go_sem] at c1
   refine sr_ [2] [] [(2, 22)] fun κ ξ hκ hξ => ?_
   simp +decide only [go_sem, c1]
   refine vo_gc ?_
   simp +decide only [go_sem]
   refine gcF (rin14_w _ _ _) ?_
   simp +decide only [go_sem]
   refine hκ _ _ ?_
   refine rt ?_
   refine retE ?_
   simp +decide only [go_sem, resD, resV, c0, c1]
   first
   | (exfalso; omega)
   | (congr 1; unfold opB; (repeat rw [if_neg (by omega)]); done)
   | (congr 1
      unfold opB
      (repeat (first | rw [if_pos (by omega)] | rw [if_neg (by omega)]))
      first | rfl | (rw [Bool.eq_iff_iff]; simp only [Bool.and_eq_true, decide_eq_true_eq]; omega))
  ·try simp only [go_sem] at c1
   refine sr_ [1, 3, 8, 27] [] [] fun κ ξ hκ hξ => ?_
   simp +decide only [go_sem, c1]
   refine hκ _ _ ?_
   refine cd_ (fun c2 => ?_) (fun c2 => ?_)
   ·try simp only [go_sem] at c2
    refine sr_ [2] [] [(2, 31)] fun κ ξ hκ hξ => ?_
    simp +decide only [go_sem, c2]
    refine vo_gc ?_
    simp +decide only [go_sem]
    refine gcF (rin14_w _ _ _) ?_
    simp +decide only [go_sem]
    refine hκ _ _ ?_
    refine rt ?_
    refine retE ?_
    simp +decide only [go_sem, resD, resV, c0, c1, c2]
    first
    | (exfalso; omega)
    | (congr 1; unfold opB; (repeat rw [if_neg (by omega)]); done)
    | (congr 1
       unfold opB
       (repeat (first | rw [if_pos (by omega)] | rw [if_neg (by omega)]))
       first | rfl | (rw [Bool.eq_iff_iff]; simp only [Bool.and_eq_true, decide_eq_true_eq]; omega))
   ·try simp only [go_sem] at c2
    refine sr_ [1, 3, 8, 36] [] [] fun κ ξ hκ hξ => ?_
    simp +decide only [go_sem, c2]
    refine hκ _ _ ?_
    refine cd_ (fun c3 => ?_) (fun c3 => ?_)
    ·try simp only [go_sem] at c3
     refine sr_ [2] [] [(2, 40)] fun κ ξ hκ hξ => ?_
     simp +decide only [go_sem, c3]
     refine vo_gc ?_
     simp +decide only [go_sem]
     refine gcF (rin14_w _ _ _) ?_
     simp +decide only [go_sem]
     refine hκ _ _ ?_
     refine rt ?_
     refine retE ?_
     simp +decide only [go_sem, resD, resV, c0, c1, c2, c3]
     first
     | (exfalso; omega)
     | (congr 1; unfold opB; (repeat rw [if_neg (by omega)]); done)
     | (congr 1
        unfold opB
        (repeat (first | rw [if_pos (by omega)] | rw [if_neg (by omega)]))
        first | rfl | (rw [Bool.eq_iff_iff]; simp only [Bool.and_eq_true, decide_eq_true_eq]; omega))
    ·try simp only [go_sem] at c3
     refine sr_ [1, 3, 8, 45] [] [] fun κ ξ hκ hξ => ?_
     simp +decide only [go_sem, c3]
     refine hκ _ _ ?_
     refine cd_ (fun c4 => ?_) (fun c4 => ?_)
     ·try simp only [go_sem] at c4
      refine sr_ [2] [] [(2, 49)] fun κ ξ hκ hξ => ?_
      simp +decide only [go_sem, c4]
      refine vo_gc ?_
      simp +decide only [go_sem]
      refine gcF (rin14_w _ _ _) ?_
      simp +decide only [go_sem]
      refine hκ _ _ ?_
      refine rt ?_
      refine retE ?_
      simp +decide only [go_sem, resD, resV, c0, c1, c2, c3, c4]
      first
      | (exfalso; omega)
      | (congr 1; unfold opB; (repeat rw [if_neg (by omega)]); done)
      | (congr 1
         unfold opB
         (repeat (first | rw [if_pos (by omega)] | rw [if_neg (by omega)]))
         first | rfl | (rw [Bool.eq_iff_iff]; simp only [Bool.and_eq_true, decide_eq_true_eq]; omega))
     ·try simp only [go_sem] at c4
      refine sr_ [1, 3, 8, 54] [] [] fun κ ξ hκ hξ => ?_
      simp +decide only [go_sem, c4]
      refine hκ _ _ ?_
      refine cd_ (fun c5 => ?_) (fun c5 => ?_)
      ·try simp only [go_sem] at c5
       refine sr_ [2] [] [(2, 58)] fun κ ξ hκ hξ => ?_
       simp +decide only [go_sem, c5]
       refine vo_gc ?_
       simp +decide only [go_sem]
       refine gcF (rin14_w _ _ _) ?_
       simp +decide only [go_sem]
       refine hκ _ _ ?_
       refine rt ?_
       refine retE ?_
       simp +decide only [go_sem, resD, resV, c0, c1, c2, c3, c4, c5]
       first
       | (exfalso; omega)
       | (congr 1; unfold opB; (repeat rw [if_neg (by omega)]); done)
       | (congr 1
          unfold opB
          (repeat (first | rw [if_pos (by omega)] | rw [if_neg (by omega)]))
          first | rfl | (rw [Bool.eq_iff_iff]; simp only [Bool.and_eq_true, decide_eq_true_eq]; omega))
      ·try simp only [go_sem] at c5
       refine sr_ [1, 3, 8, 63] [] [] fun κ ξ hκ hξ => ?_
       simp +decide only [go_sem, c5]
       refine hκ _ _ ?_
       refine cd_ (fun c6 => ?_) (fun c6 => ?_)
       ·try simp only [go_sem] at c6
        refine sr_ [2] [] [(2, 67)] fun κ ξ hκ hξ => ?_
        simp +decide only [go_sem, c6]
        refine hκ _ _ ?_
        refine rt ?_
        refine retE ?_
        simp +decide only [go_sem, resD, resV, c0, c1, c2, c3, c4, c5, c6]
        first
        | (exfalso; omega)
        | (congr 1; unfold opB; (repeat rw [if_neg (by omega)]); done)
        | (congr 1
           unfold opB
           (repeat (first | rw [if_pos (by omega)] | rw [if_neg (by omega)]))
           first | rfl | (rw [Bool.eq_iff_iff]; simp only [Bool.and_eq_true, decide_eq_true_eq]; omega))
       ·try simp only [go_sem] at c6
        refine sr_ [1, 3, 8, 72] [] [] fun κ ξ hκ hξ => ?_
        simp +decide only [go_sem, c6]
        refine hκ _ _ ?_
        refine cd_ (fun c7 => ?_) (fun c7 => ?_)
        ·try simp only [go_sem] at c7
         refine sr_ [2] [] [(2, 76)] fun κ ξ hκ hξ => ?_
         simp +decide only [go_sem, c7]
         refine hκ _ _ ?_
         refine rt ?_
         refine retE ?_
         simp +decide only [go_sem, resD, resV, c0, c1, c2, c3, c4, c5, c6, c7]
         first
         | (exfalso; omega)
         | (congr 1; unfold opB; (repeat rw [if_neg (by omega)]); done)
         | (congr 1
            unfold opB
            (repeat (first | rw [if_pos (by omega)] | rw [if_neg (by omega)]))
            first | rfl | (rw [Bool.eq_iff_iff]; simp only [Bool.and_eq_true, decide_eq_true_eq]; omega))
        ·try simp only [go_sem] at c7
         refine sr_ [1, 3, 8, 81] [] [] fun κ ξ hκ hξ => ?_
         simp +decide only [go_sem, c7]
         refine hκ _ _ ?_
         refine cd_ (fun c8 => ?_) (fun c8 => ?_)
         ·try simp only [go_sem] at c8
          refine sr_ [2] [] [(2, 85)] fun κ ξ hκ hξ => ?_
          simp +decide only [go_sem, c8]
          refine hκ _ _ ?_
          refine rt ?_
          refine retE ?_
          simp +decide only [go_sem, resD, resV, c0, c1, c2, c3, c4, c5, c6, c7, c8]
          first
          | (exfalso; omega)
          | (congr 1; unfold opB; (repeat rw [if_neg (by omega)]); done)
          | (congr 1
             unfold opB
             (repeat (first | rw [if_pos (by omega)] | rw [if_neg (by omega)]))
             first | rfl | (rw [Bool.eq_iff_iff]; simp only [Bool.and_eq_true, decide_eq_true_eq]; omega))
         ·try simp only [go_sem] at c8
          refine sr_ [1, 3, 90] [] [] fun κ ξ hκ hξ => ?_
          simp +decide only [go_sem, c8]
          refine hκ _ _ ?_
          refine cd_ (fun c9 => ?_) (fun c9 => ?_)
          ·try simp only [go_sem] at c9
           refine sr_ [2] [] [(2, 94)] fun κ ξ hκ hξ => ?_
           simp +decide only [go_sem, c9]
           refine hκ _ _ ?_
           refine rt ?_
           refine retE ?_
           simp +decide only [go_sem, resD, resV, c0, c1, c2, c3, c4, c5, c6, c7, c8, c9]
           first
           | (exfalso; omega)
           | (congr 1; unfold opB; (repeat rw [if_neg (by omega)]); done)
           | (congr 1
              unfold opB
              (repeat (first | rw [if_pos (by omega)] | rw [if_neg (by omega)]))
              first | rfl | (rw [Bool.eq_iff_iff]; simp only [Bool.and_eq_true, decide_eq_true_eq]; omega))
          ·try simp only [go_sem] at c9
           refine sk ?_
           refine sr_ [2] [] [] fun κ ξ hκ hξ => ?_
           simp +decide only [go_sem, c9]
           refine hκ _ _ ?_
           refine rt ?_
           refine retE ?_
           simp +decide only [go_sem, resD, resV, c0, c1, c2, c3, c4, c5, c6, c7, c8, c9]
           first
           | (exfalso; omega)
           | (congr 1; unfold opB; (repeat rw [if_neg (by omega)]); done)
           | (congr 1
              unfold opB
              (repeat (first | rw [if_pos (by omega)] | rw [if_neg (by omega)]))
              first | rfl | (rw [Bool.eq_iff_iff]; simp only [Bool.and_eq_true, decide_eq_true_eq]; omega))
end
section
def sz14 (e : Ex) (lv mo : Nat) : Int := if fmX e lv mo = true then (exS e : Int) else 1000
theorem sz14_bd (e : Ex) (lv : Nat) {mo : Nat} (h : mo ≤ 100) : 0 ≤ sz14 e lv mo ∧ sz14 e lv mo ≤ 1000 := by
 unfold sz14
 split
 ·rename_i hf; have := (fmX_true.1 hf).2.2; omega
 ·omega
attribute [local go_sem] List.length_map rowAt_n nrow rowAt_t trow rowAt_i irow
attribute [local go_sem] rowAt_e rowAt_tm rowAt_dc rowAt_ru tmrow dcrow rurow
attribute [local go_sem] iD_all iD_len rw2_0 rw2_1 rw1_0 Int.toNat_one
theorem size14_s (e : Ex) (lv mo : Nat) (hlv : lv ≤ 100) (hmo : mo ≤ 100) (ih : ∀ k : Ex, exS k < exS e → ∀ lv mo : Nat, lv ≤ 100 → mo ≤ 100 → PCall Tryz.prog (.func 194) [.ag [.int .i64 k.op, .int .i64 k.num, .sl 3 (k.kids.map erow) .no], .int .i64 lv, .int .i64 mo] (.int .i64 (sz14 k lv mo))) : PCall Tryz.prog (.func 194) [.ag [.int .i64 e.op, .int .i64 e.num, .sl 3 (e.kids.map erow) .no], .int .i64 lv, .int .i64 mo] (.int .i64 (sz14 e lv mo)) := by
 refine PCall.ok fun hok => ?_
 simp only [okAll, D.ok, okRows, and_true, true_and, lim_eq, inR_i64', inR_i32', inR_u8', inR_u16', inR_u64'] at hok
 obtain ⟨⟨h1, h2, hl, hr⟩, _⟩ := hok; rw [List.length_map] at hl
 refine PCall.le ?_
 refine fn_ Tryz.func194 (by rfl) (by rfl) (rs := [.tmp 6]) (by rfl) (by simp [Tryz.f194]) ?_
 refine sr_ [1, 2, 3] [3] [] fun κ ξ hκ hξ => ?_
 simp +decide only [go_sem]
 refine hκ _ _ ?_
 refine sr_ [1, 2, 3, 7] [] [] fun κ ξ hκ hξ => ?_
 simp +decide only [go_sem]
 refine callF (rnd14_w e) ?_
 simp +decide only [go_sem]
 refine hκ _ _ ?_
 refine sq ?_
 refine sr_ [1, 2, 3, 21] [] [(2, 14), (6, 18)] fun κ ξ hκ hξ => ?_
 simp +decide only [go_sem]
 refine hκ _ _ ?_
 refine cd_ (fun c0 => ?_) (fun c0 => ?_)
 ·simp only [go_sem] at c0
  refine sr_ [6] [] [] fun κ ξ hκ hξ => ?_
  simp +decide only [go_sem]
  refine hκ _ _ ?_
  have hf : fmX e lv mo = false := by
   refine fmX_no ?_
   rcases c0 with (c | c) | c
   ·exact .inl c
   ·exact .inr (.inl (by omega))
   ·exact .inr (.inr (by omega))
  refine rt ?_
  refine retE ?_
  simp +decide only [go_sem, resD, resV, c0]
  congr 1
  unfold sz14
  rw [if_neg (by rw [hf]; simp)]
 ·simp only [go_sem] at c0
  have hL1 : 1 ≤ lv := by omega
  have hm1 : 1 ≤ mo := by omega
  have hop := c0.1.1
  have hlw : IntKind.wrap .i64 ((lv : Int) - 1) = ((lv - 1 : Nat) : Int) := by rw [w64 (by omega)]; omega
  refine sk ?_
  refine sr_ [1, 2, 3, 8] [] [] fun κ ξ hκ hξ => ?_
  simp +decide only [go_sem, c0]
  refine hκ _ _ ?_
  refine sq ?_
  refine sr_ [1, 2, 3, 8, 9] [] [] fun κ ξ hκ hξ => ?_
  simp +decide only [go_sem]
  refine hκ _ _ ?_
  refine bl ?_
  refine lp (α := Nat) (fun i => mk [(1, .int .i64 lv), (2, .int .i64 mo), (3, .el [.int .i64 e.op, .int .i64 e.num, .sl 3 (e.kids.map erow) .no]), (8, .int .i64 (1 + ((exSs (e.kids.take i) : Nat) : Int))), (9, .int .i64 i)]) (fun _ => []) (fun i => (i ≤ e.kids.length ∧ 1 + exSs (e.kids.take i) ≤ mo) ∧ ∀ j, j < i → exN (eat e.kids j) = true ∧ exD (eat e.kids j) ≤ lv - 1) (fun i => e.kids.length - i) 0 ⟨⟨⟨by omega, by simp [exSs]; omega⟩, by intro j hj; omega⟩, EnvLe.of_eq (by rw [List.take_zero, exSs]; rfl), .refl _⟩ ?_
  rintro i ⟨⟨hi, hn⟩, hj⟩
  refine sq ?_
  refine sr_ [1, 2, 3, 8, 9, 26] [] [] fun κ ξ hκ hξ => ?_
  simp +decide only [go_sem]
  refine hκ _ _ ?_
  refine cd_ (fun c1 => ?_) (fun c1 => ?_)
  ·simp only [go_sem] at c1
   have hmw : IntKind.wrap .i64 ((mo : Int) - (1 + ((exSs (e.kids.take i) : Nat) : Int))) = (((mo - (1 + exSs (e.kids.take i))) : Nat) : Int) := by rw [w64 (by omega)]; omega
   have hbd := sz14_bd (eat e.kids i) (lv - 1) (mo := (mo - (1 + exSs (e.kids.take i)))) (by omega)
   have hnw : IntKind.wrap .i64 ((1 + ((exSs (e.kids.take i) : Nat) : Int)) + sz14 (eat e.kids i) (lv - 1) (mo - (1 + exSs (e.kids.take i)))) = (1 + ((exSs (e.kids.take i) : Nat) : Int)) + sz14 (eat e.kids i) (lv - 1) (mo - (1 + exSs (e.kids.take i))) := w64 (by omega)
   refine sk ?_
   refine sq ?_
   refine bl ?_
   refine sr_ [1, 2, 3, 8, 9] [] [] fun κ ξ hκ hξ => ?_
   simp +decide only [go_sem, hlw, c1, hmw]
   repeat with_reducible refine an_ ?_
   refine callF (ih (eat e.kids i) (kid_lt (by omega)) (lv - 1) (mo - (1 + exSs (e.kids.take i))) (by omega) (by omega)) ?_
   simp +decide only [go_sem, hnw]
   refine hκ _ _ ?_
   refine sr_ [1, 2, 3, 8, 9, 44] [] [] fun κ ξ hκ hξ => ?_
   simp +decide only [go_sem]
   refine hκ _ _ ?_
   refine cd_ (fun c2 => ?_) (fun c2 => ?_)
   ·simp only [go_sem] at c2
    refine sr_ [6] [] [] fun κ ξ hκ hξ => ?_
    simp +decide only [go_sem, c2]
    refine hκ _ _ ?_
    have hf : fmX e lv mo = false := by
     refine fmX_kid (i := i) (by omega) ?_ hL1
     rw [show (mo : Int) - 1 - ((exSs (e.kids.take i) : Nat) : Int) = (((mo - (1 + exSs (e.kids.take i))) : Nat) : Int) by omega]
     cases hf : fmX (eat e.kids i) (lv - 1) ((mo - (1 + exSs (e.kids.take i))) : Nat) with
     | false => rfl
     | true => have h3 := (fmX_true.1 hf).2.2; unfold sz14 at c2; rw [if_pos hf] at c2; omega
    refine rt ?_
    refine retE ?_
    simp +decide only [go_sem, resD, resV, c0, hlw, c1, hmw, hnw, c2]
    congr 1
    unfold sz14
    rw [if_neg (by rw [hf]; simp)]
   ·simp only [go_sem] at c2
    refine sk ?_
    refine rr_ [1, 2, 3, 8, 9] [] [] fun κ ξ hκ hξ => ?_
    simp +decide only [go_sem, c2]
    refine hκ _ _ ?_
    have hs := exSs_take (l := e.kids) (i := i) (by omega)
    have hk : fmX (eat e.kids i) (lv - 1) ((mo - (1 + exSs (e.kids.take i))) : Nat) = true := by
     cases hf : fmX (eat e.kids i) (lv - 1) ((mo - (1 + exSs (e.kids.take i))) : Nat) with
     | true => rfl
     | false => unfold sz14 at c2; rw [if_neg (by rw [hf]; simp)] at c2; omega
    have hse : sz14 (eat e.kids i) (lv - 1) (mo - (1 + exSs (e.kids.take i))) = (exS (eat e.kids i) : Int) := if_pos hk
    have hk2 := fmX_true.1 hk
    refine ⟨i + 1, ⟨⟨⟨by omega, by omega⟩, ?_⟩, by omega⟩, EnvLe.of_eq ?_, .refl _⟩
    ·intro j h
     rcases Nat.lt_succ_iff_lt_or_eq.1 h with h | rfl
     ·exact hj j h
     ·exact ⟨hk2.1, hk2.2.1⟩
    ·rw [w64 (n := (i : Int) + 1) (by omega), hse, hs, Int.natCast_add, Int.add_assoc]; rfl
  ·simp only [go_sem] at c1
   refine ex ?_
   refine sr_ [6] [] [] fun κ ξ hκ hξ => ?_
   simp +decide only [go_sem, c1]
   refine hκ _ _ ?_
   obtain rfl : i = e.kids.length := by omega
   rw [List.take_length] at hn ⊢
   have hf : fmX e lv mo = true := fmX_end hL1 hop hj (by omega)
   have hse : exS e = 1 + exSs e.kids := exS_eq e
   refine rt ?_
   refine retE ?_
   simp +decide only [go_sem, resD, resV, c0, hlw, c1]
   congr 1
   unfold sz14
   rw [if_pos hf, hse]
   omega
theorem size14_w (k : Ex) : ∀ lv mo : Nat, lv ≤ 100 → mo ≤ 100 → PCall Tryz.prog (.func 194) [.ag [.int .i64 k.op, .int .i64 k.num, .sl 3 (k.kids.map erow) .no], .int .i64 lv, .int .i64 mo] (.int .i64 (sz14 k lv mo)) := by
 suffices h : ∀ n (k : Ex), exS k ≤ n → ∀ lv mo : Nat, lv ≤ 100 → mo ≤ 100 → PCall Tryz.prog (.func 194) [.ag [.int .i64 k.op, .int .i64 k.num, .sl 3 (k.kids.map erow) .no], .int .i64 lv, .int .i64 mo] (.int .i64 (sz14 k lv mo)) from h _ k (Nat.le_refl _)
 intro n
 induction n with
 | zero => intro e he; have := exS_pos e; omega
 | succ n ih => exact fun e he lv mo h1 h2 => size14_s e lv mo h1 h2 fun k hk a b ha hb => ih k (by omega) a b ha hb
theorem va14_w (e : Ex) : PCall Tryz.prog (.func 159) [.ag [.int .i64 e.op, .int .i64 e.num, .sl 3 (e.kids.map erow) .no]] (.bool (exB e)) := by
 refine PCall.le ?_
 refine fn_ Tryz.func159 (by rfl) (by rfl) (rs := [.tmp 2]) (by rfl) (by simp [Tryz.f159]) ?_
 refine sr_ [1] [1] [] fun κ ξ hκ hξ => ?_
 simp +decide only [go_sem]
 refine hκ _ _ ?_
 refine sr_ [2] [] [] fun κ ξ hκ hξ => ?_
 simp +decide only [go_sem]
 refine callF (size14_w e 30 100 (by omega) (by omega)) ?_
 simp +decide only [go_sem]
 refine hκ _ _ ?_
 refine rt ?_
 refine retE ?_
 simp +decide only [go_sem, resD, resV]
 congr 1
 rw [← fmX_all]
 unfold sz14
 cases hf : fmX e 30 100 with
 | true => have := (fmX_true.1 hf).2.2; simp; omega
 | false => simp
end
section
attribute [local go_sem] List.length_map rowAt_n nrow rowAt_t trow rowAt_i irow
attribute [local go_sem] rowAt_e rowAt_tm rowAt_dc rowAt_ru tmrow dcrow rurow
attribute [local go_sem] iD_all iD_len rw2_0 rw2_1 rw1_0 Int.toNat_one
theorem abt14_w (s : Int) (vs : List Int) (hvs : vs.length = 8) : PCall Tryz.prog (.func 160) [.int .i64 s, .ag (vs.map iD)] (.bool (decide (50 ≤ s ∧ s ≤ 300) && vs.all okV)) := by
 refine PCall.le ?_
 refine fn_ Tryz.func160 (by rfl) (by rfl) (rs := [.tmp 4]) (by rfl) (by simp [Tryz.f160]) ?_
 refine sr_ [0, 3] [3] [] fun κ ξ hκ hξ => ?_
 simp +decide only [go_sem]
 refine hκ _ _ ?_
 refine sq ?_
 refine sr_ [0, 3, 5] [] [] fun κ ξ hκ hξ => ?_
 simp +decide only [go_sem]
 refine hκ _ _ ?_
 refine bl ?_
 refine lp (α := Nat) (fun i => mk [(0, .int .i64 s), (3, .el (vs.map iD)), (5, .int .i64 i)]) (fun _ => []) (fun i => i ≤ 8 ∧ ∀ j, j < i → okV (vs.getD j 0) = true) (fun i => 8 - i) 0 ⟨⟨by omega, by intro j hj; omega⟩, EnvLe.of_eq rfl, .refl _⟩ ?_
 rintro i ⟨hi, hj⟩
 refine sq ?_
 refine sr_ [0, 3, 5, 8] [] [] fun κ ξ hκ hξ => ?_
 simp +decide only [go_sem]
 refine hκ _ _ ?_
 refine cd_ (fun c0 => ?_) (fun c0 => ?_)
 ·simp only [go_sem] at c0
  have hii : i < vs.length := by omega
  have hhd := hd_i (l := vs) (k := i) hii
  have hdr : ¬ vs.length ≤ i := by omega
  refine sk ?_
  refine sq ?_
  refine bl ?_
  refine sr_ [0, 3, 5, 6] [] [] fun κ ξ hκ hξ => ?_
  simp +decide only [go_sem, c0, hhd, Int.toNat_natCast, Nat.mul_one, ← List.map_drop]
  repeat with_reducible refine an_ ?_
  refine callF (rco_w _) ?_
  simp +decide only [go_sem]
  refine hκ _ _ ?_
  refine sr_ [0, 3, 5, 16] [] [] fun κ ξ hκ hξ => ?_
  simp +decide only [go_sem]
  refine hκ _ _ ?_
  refine cd_ (fun c1 => ?_) (fun c1 => ?_)
  ·simp only [go_sem] at c1
   refine sr_ [4] [] [] fun κ ξ hκ hξ => ?_
   simp +decide only [go_sem, c1]
   refine hκ _ _ ?_
   refine rt ?_
   refine retE ?_
   simp +decide only [go_sem, resD, resV, hvs, List.append_nil, c0, hii, hhd, Int.toNat_natCast, Nat.zero_add, Nat.mul_one, ← List.map_drop, c1]
   congr 1
   rw [all_no (p := okV) (0 : Int) (j := i) (by omega) c1, Bool.and_false]
  ·simp only [go_sem] at c1
   refine sk ?_
   refine rr_ [0, 3, 5] [] [] fun κ ξ hκ hξ => ?_
   simp +decide only [go_sem, c1]
   refine hκ _ _ ?_
   refine ⟨i + 1, ⟨⟨by omega, ?_⟩, by omega⟩, EnvLe.of_eq (by rw [w64 (n := (i : Int) + 1) (by omega)]; rfl), .refl _⟩
   intro j h
   rcases Nat.lt_succ_iff_lt_or_eq.1 h with h | rfl
   ·exact hj j h
   ·exact c1
 ·simp only [go_sem] at c0
  obtain rfl : i = 8 := by omega
  refine ex ?_
  refine sr_ [4] [] [] fun κ ξ hκ hξ => ?_
  simp +decide only [go_sem]
  refine callF (rin14_w _ _ _) ?_
  simp +decide only [go_sem]
  refine hκ _ _ ?_
  refine rt ?_
  refine retE ?_
  simp +decide only [go_sem, resD, resV, hvs, List.append_nil, c0]
  congr 1
  rw [(all_at (p := okV) (0 : Int)).2 fun j h => hj j (by omega), Bool.and_true]
end
section
def cutK : List (Option (Int × Int)) := [some (0, 0), some (-100000, 100000), some (-100000, 100000), some (0, 100000), some (0, 100000), some (0, 100000), some (0, 100000), some (0, 2), some (0, 7), some (0, 100000), some (0, 2), none, some (0, 100000), some (0, 100000), some (1, 64), some (1, 64), some (0, 100000), none,
  some (-100000, 100000), some (-100000, 100000), some (0, 100000), none, some (0, 100000), none, none] ++ List.replicate 8 (some (-1000000, 1000000))
def cutV (p : Nat) (n : Int) : Int := match cutK.getD p none with
 | some (a, b) => mnI (mxI n a) b
 | none => if n = 0 then 0 else 1
def cutO : Option (Int × Int) → D
 | some (a, b) => cpD a b
 | none => flD
theorem cutL_eq : cutL = cutK.map cutO := rfl
def cutD (p : Nat) : D := cutO (cutK.getD p none)
theorem cutL_len : cutL.length = 33 := by decide
theorem cutL_all : cutL.all D.isCell = true := rfl
theorem cutL_hd {p : Nat} (h : p < 33) : (cutL.drop p).headD .top = cutD p := by
 have hl : p < cutL.length := h
 rw [List.drop_eq_getElem_cons hl, List.headD_cons, cutD]
 have : cutK.getD p none = cutK[p]'(by simpa [cutL_eq] using hl) := by
  rw [List.getD_eq_getElem?_getD, List.getElem?_eq_getElem]; rfl
 rw [this]
 simp [cutL_eq]
theorem cutL_le {p : Nat} (h : p < 33) : 1 ≤ (cutL.drop p).length := by
 rw [List.length_drop, cutL_len]; omega
theorem cut_call {p : Nat} {n : Int} {σ : Store} {K X : D → Store → Prop} (hk : K (.int .i64 (cutV p n)) σ) : CallK Tryz.prog (cutD p) [.int .i64 n] K X σ := by
 unfold cutD cutV at *
 cases e : cutK.getD p none with
 | none =>
  rw [e] at hk
  exact callF (flag_w n) hk
 | some ab =>
  obtain ⟨a, b⟩ := ab
  rw [e] at hk
  exact callFc (clp_w n a b) hk
def parB (par : List Int) : Bool := (List.range 33).all fun j => decide (cutV j (iat par j) = iat par j)
theorem parB_no {par : List Int} {i : Nat} (h : i < 33) (hc : ¬ cutV i (iat par i) = iat par i) : parB par = false := by
 rw [← Bool.not_eq_true]
 intro hp
 rw [parB, List.all_eq_true] at hp
 have := hp i (List.mem_range.2 h)
 rw [decide_eq_true_eq] at this
 exact hc this
theorem parB_yes {par : List Int} (h : ∀ j, j < 33 → cutV j (iat par j) = iat par j) : parB par = true := by
 rw [parB, List.all_eq_true]
 intro j hj
 rw [decide_eq_true_eq]
 exact h j (List.mem_range.1 hj)
theorem clip_idem (n a b : Int) : mnI (mxI (mnI (mxI n a) b) a) b = mnI (mxI n a) b := by
 have key : ∀ m : Int, mnI (mxI m a) b = if b < a then b else if m < a then a else if b < m then b else m := fun m => by
  unfold mnI mxI
  repeat' split
  all_goals omega
 rw [key (mnI (mxI n a) b), key n]
 repeat' split
 all_goals omega
theorem cutV_idem (p : Nat) (n : Int) : cutV p (cutV p n) = cutV p n := by
 unfold cutV
 cases cutK.getD p none with
 | none =>
  show (if (if n = 0 then (0 : Int) else 1) = 0 then (0 : Int) else 1) = if n = 0 then 0 else 1
  by_cases h : n = 0 <;> simp [h]
 | some ab => exact clip_idem _ _ _
def zS : List Int := List.replicate 33 0
def clE (rs : List Ru) (c : Cl) : Ex := (dcat (ruat rs c.ru.toNat).decls c.k.toNat).val
def stF (rs : List Ru) (cs : List Cl) (w s : Int) (vs : List Int) : Nat → Nat → List Int → List Int × Int
 | 0, _, out => (out, 0)
 | n + 1, p, out => if (clat cs p).ok = true then (if (evV w s vs (clE rs (clat cs p))).2 = 0 then stF rs cs w s vs n (p + 1) (out.set p (cutV p (evV w s vs (clE rs (clat cs p))).1)) else (zS, (evV w s vs (clE rs (clat cs p))).2)) else stF rs cs w s vs n (p + 1) out
def st0 (par : List Int) : List Int := ((((firstS.set 8 (iat par 8)).set 9 (iat par 9)).set 10 (iat par 10)).set 11 (iat par 11)).take 25 ++ par.drop 25
def styI (rs : List Ru) (cs : List Cl) (w s : Int) (par : List Int) : List Int × Int :=
 if (stF rs cs w s (par.drop 25) 8 25 (st0 par)).2 = 0 then stF rs cs w s ((stF rs cs w s (par.drop 25) 8 25 (st0 par)).1.drop 25) 24 1 (stF rs cs w s (par.drop 25) 8 25 (st0 par)).1 else (zS, (stF rs cs w s (par.drop 25) 8 25 (st0 par)).2)
def styR (l : List Nd) (rs : List Ru) (x w s lg : Int) (par : List Int) (wd bx : Int) : List Int × Int :=
 if parB par = true ∧ 0 ≤ wd ∧ wd ≤ 1000000 then (if ckE l rs x w s lg bx = 0 then styI rs (claimsR l rs x w s lg bx) wd s par else (zS, ckE l rs x w s lg bx)) else (zS, 1)
theorem iD_set (l : List Int) (k : Nat) (v : Int) : (l.map iD).set k (.int .i64 v) = (l.set k v).map iD := by
 rw [List.map_set]; rfl
theorem iD_put {l : List Int} {k : Nat} (h : k < l.length) (v : Int) : putCells (l.map iD) k [.int .i64 v] = (l.set k v).map iD := by
 rw [← iD_set]
 unfold putCells
 rw [List.set_eq_take_append_cons_drop, if_pos (by simpa using h)]
 simp
theorem iD_putU {l : List Int} {k j : Nat} (h : k < l.length) (hj : j = k + 1) (v : Int) : List.map iD (List.take k l) ++ [.int .i64 v] ++ List.map iD (List.drop j l) = (l.set k v).map iD := by
 subst hj
 have := iD_put h v
 unfold putCells at this
 simpa using this
theorem iD_putL {l m : List Int} {k : Nat} : putCells (l.map iD) k (m.map iD) = (l.take k ++ m ++ l.drop (k + m.length)).map iD := by
 unfold putCells
 simp
theorem st0_len {par : List Int} (h : par.length = 33) : (st0 par).length = 33 := by
 unfold st0 firstS
 simp [h]
theorem stF_len (rs : List Ru) (cs : List Cl) (w s : Int) (vs : List Int) : ∀ (n p : Nat) (out : List Int), out.length = 33 → (stF rs cs w s vs n p out).1.length = 33
 | 0, _, _, h => h
 | n + 1, p, out, h => by
  unfold stF
  split
  ·split
   ·exact stF_len rs cs w s vs n (p + 1) _ (by simpa using h)
   ·rfl
  ·exact stF_len rs cs w s vs n (p + 1) _ h
theorem styI_len {rs : List Ru} {cs : List Cl} {w s : Int} {par : List Int} (h : par.length = 33) : (styI rs cs w s par).1.length = 33 := by
 unfold styI
 split
 ·exact stF_len _ _ _ _ _ _ _ _ (stF_len _ _ _ _ _ _ _ _ (st0_len h))
 ·rfl
theorem styR_len {l : List Nd} {rs : List Ru} {x w s lg : Int} {par : List Int} {wd bx : Int} (h : par.length = 33) : (styR l rs x w s lg par wd bx).1.length = 33 := by
 unfold styR
 split
 ·split
  ·exact styI_len h
  ·rfl
 ·rfl
def clOK (rs : List Ru) (c : Cl) : Prop := c.ok = true → (0 ≤ c.ru ∧ c.ru < rs.length) ∧ 0 ≤ c.k ∧ c.k < (ruat rs c.ru.toNat).decls.length
theorem clat_set {o : List Cl} {p q : Nat} {c : Cl} : clat (o.set p c) q = if p = q ∧ q < o.length then c else clat o q := by
 unfold clat
 rw [List.getD_eq_getElem?_getD, List.getD_eq_getElem?_getD, List.getElem?_set]
 by_cases h : p = q
 ·subst h
  by_cases h2 : p < o.length
  ·simp [h2]
  ·simp [h2, List.getElem?_eq_none (Nat.le_of_not_lt h2)]
 ·simp [h]
theorem cl1_ok {rs : List Ru} {i : Nat} {o : List Cl} {k : Nat} (hi : i < rs.length) (hk : k < (ruat rs i).decls.length) (h : ∀ q, clOK rs (clat o q)) (q : Nat) : clOK rs (clat (cl1 rs i o k) q) := by
 unfold cl1
 split
 ·rw [clat_set]
  split
  ·intro _
   simp only [Int.toNat_natCast]
   omega
  ·exact h q
 ·exact h q
theorem clR_ok {rs : List Ru} {i : Nat} {o : List Cl} (hi : i < rs.length) (h : ∀ q, clOK rs (clat o q)) : ∀ n, n ≤ (ruat rs i).decls.length → ∀ q, clOK rs (clat (clR rs i o n) q)
 | 0, _ => h
 | n + 1, hn => by
  rw [clR_succ]
  exact cl1_ok hi hn (clR_ok hi h n (by omega))
theorem clF_ok {rs : List Ru} : ∀ (is : List Nat) (o : List Cl), (∀ i ∈ is, i < rs.length) → (∀ q, clOK rs (clat o q)) → ∀ q, clOK rs (clat (clF rs o is) q)
 | [], _, _, h => h
 | i :: is, o, hi, h => clF_ok is _ (fun j hj => hi j (List.mem_cons_of_mem _ hj)) (clR_ok (hi i (by simp)) h _ (Nat.le_refl _))
theorem claims_ok (l : List Nd) (rs : List Ru) (x w s lg bx : Int) (q : Nat) : clOK rs (clat (claimsR l rs x w s lg bx) q) := by
 refine clF_ok _ _ (fun i hi => ?_) (fun q => ?_) q
 ·have := (List.mem_filter.1 hi).1
  simpa using this
 ·intro h
  unfold clat at h
  rw [List.getD_eq_getElem?_getD, List.getElem?_replicate] at h
  split at h <;> simp [cl0] at h
theorem irow_cell (l : List Int) : (l.map irow).all (·.all D.isCell) = true := by
 rw [List.all_map]
 exact List.all_eq_true.2 fun _ _ => rfl
theorem firstS_len : firstS.length = 33 := by simp only [firstS, List.length_cons, List.length_nil]
theorem ncp {P : Program} {σ : Store} {ts : Array TypeId} {e : TypeId} {g : Bool} {sz sz1 b o n c : Nat} {x : D} {new : List (List D)} {cs cs' : List D} {K : D → Store → Prop} (hT : ts[0]?.bind (sle P) = some (e, g, sz)) (hr : rowsOf σ x = some (sz1, new)) (hg : σ.get b = some (.cells cs))
  (hs : (new = [] ∨ sz1 = sz) ∧ new.all (·.all D.isCell) = true ∧ new.length = n ∧ o + n * sz ≤ cs.length) (he : putCells cs o new.flatten = cs') (hk : K .top (σ.upd b (.cells cs'))) : ncopy P σ ts (.v (.slice (some ⟨b, o, none⟩) n c)) x K := by
 unfold ncopy
 simp only [hT, hr, hg]
 exact ⟨hs, he ▸ hk⟩
theorem st0_put {par : List Int} (h : par.length = 33) : putCells (((((firstS.set 8 (iat par 8)).set 9 (iat par 9)).set 10 (iat par 10)).set 11 (iat par 11)).map iD) 25 ((List.map irow (List.drop 25 par)).flatten) = (st0 par).map iD := by
 rw [flat_i, iD_putL]
 unfold st0
 have e : List.drop (25 + (List.drop 25 par).length) ((((firstS.set 8 (iat par 8)).set 9 (iat par 9)).set 10 (iat par 10)).set 11 (iat par 11)) = [] := List.drop_eq_nil_of_le (by simp only [List.length_set, firstS_len, List.length_drop, h]; decide)
 rw [e, List.append_nil]
theorem zS_end : zS.drop 33 = [] := rfl
theorem ckE_zero {l : List Nd} {rs : List Ru} {x w s lg bx : Int} (h : ckE l rs x w s lg bx = 0) : ckB l rs w s lg bx = true ∧ idB x = true ∧ 0 ≤ idx l x := by
 unfold ckE at h
 split at h
 ·split at h
  ·split at h
   ·exact ⟨by assumption, by assumption, by assumption⟩
   ·omega
  ·omega
 ·omega
theorem ckB_iff {l : List Nd} {rs : List Ru} {w s lg bx : Int} : ckB l rs w s lg bx = true ↔ ((treB l = true ∧ rulesB rs = true) ∧ rdB w s lg = true) ∧ isBx bx = true := by
 unfold ckB
 simp only [Bool.and_eq_true]
theorem mem_ruat {l : List Ru} {i : Nat} (h : i < l.length) : ruat l i ∈ l := by
 unfold ruat
 rw [List.getD_eq_getElem?_getD, List.getElem?_eq_getElem h]
 exact List.getElem_mem h
theorem mem_dcat {l : List Dc} {i : Nat} (h : i < l.length) : dcat l i ∈ l := by
 unfold dcat
 rw [List.getD_eq_getElem?_getD, List.getElem?_eq_getElem h]
 exact List.getElem_mem h
theorem rules_dc {rs : List Ru} (h : rulesB rs = true) : rs.length ≤ 200 ∧ ∀ i, i < rs.length → (ruat rs i).decls.length ≤ 40 ∧ ∀ k, k < (ruat rs i).decls.length → (1 ≤ (dcat (ruat rs i).decls k).prop ∧ (dcat (ruat rs i).decls k).prop ≤ 32) ∧ exB (dcat (ruat rs i).decls k).val = true := by
 unfold rulesB at h
 simp only [Bool.and_eq_true, decide_eq_true_eq, List.all_eq_true] at h
 refine ⟨h.1, fun i hi => ?_⟩
 have hr := h.2 _ (mem_ruat hi)
 unfold ruB at hr
 simp only [Bool.and_eq_true, decide_eq_true_eq, List.all_eq_true] at hr
 refine ⟨hr.1.1.2, fun k hk => ?_⟩
 have hd := hr.2 _ (mem_dcat hk)
 unfold dcB at hd
 simp only [Bool.and_eq_true, decide_eq_true_eq] at hd
 exact hd
end
section
attribute [local go_sem] List.length_map rowAt_n nrow rowAt_t trow rowAt_i irow
attribute [local go_sem] rowAt_e rowAt_tm rowAt_dc rowAt_ru tmrow dcrow rurow
attribute [local go_sem] rowAt_br rowAt_s rowAt_fo rowAt_ve rowAt_g rowAt_k grow krow srow brrow forow dorow verow
attribute [local go_sem] iD_all iD_len rw2_0 rw2_1 rw1_0 Int.toNat_one
attribute [local go_sem] rwz rws1 rws2 rws3 rws4 wr1 wr2 wr3 wr4 wr5
attribute [local go_sem] cutL_len cutL_all iD_putU firstS_len List.length_set iD_putL clD_cell clD_all clD_end crow List.append_nil Int.reduceToNat flat_i irow_cell
theorem sty_w (d : Do) (x w s lg : Int) (par : List Int) (wd bx : Int) (hpl : par.length = 33) : PCall Tryz.prog (.func 24) [.ag (dorow d), .int .i64 x, .ag [.int .i64 w, .int .i64 s, .int .i64 lg], .ag (par.map iD), .int .i64 wd, .int .i64 bx] (.tup [.ag ((styR d.nodes d.rules x w s lg par wd bx).1.map iD), .int .i64 (styR d.nodes d.rules x w s lg par wd bx).2]) := by
 have hch := chunk_i hpl
 have h33 : par.take 33 = par := List.take_of_length_le (by omega)
 refine PCall.le ?_
 refine fn_ Tryz.func24 (by rfl) (by rfl) (rs := [.cell 12 33, .tmp 13]) (by rfl) (by simp [Tryz.f24]) ?_
 refine sr_ [1, 4, 5, 6, 8, 9, 12] [6, 8, 9] [] fun κ ξ hκ hξ => ?_
 simp +decide only [go_sem]
 intro b12 hb12
 refine hκ _ _ ?_
 refine weak _ (EnvLe.refl _) (σ' := [(b12, .cells (zS.map iD))]) (.refl _) ?_
 refine srz_ [(14, [])] [1, 4, 5, 6, 8, 9, 12, 14] [] [] fun κ ξ hκ hξ => ?_
 simp +decide only [go_sem, hb12]
 refine callF (cuts_w) ?_
 simp +decide only [go_sem, hb12]
 intro b14 hb14
 refine hκ _ _ ?_
 refine sq ?_
 refine sr_ [1, 4, 5, 6, 8, 9, 12, 14, 31, 32] [] [] fun κ ξ hκ hξ => ?_
 simp +decide only [go_sem, hpl, h33, hb12, hb14]
 refine hκ _ _ ?_
 refine bl ?_
 refine lp (α := Nat) (fun i => mk [(1, .int .i64 x), (4, .int .i64 wd), (5, .int .i64 bx), (6, .el (dorow d)), (8, .el [.int .i64 w, .int .i64 s, .int .i64 lg]), (9, .el (par.map iD)), (12, .ptr b12 0), (14, .el cutL), (31, .ag (par.map iD)), (32, .int .i64 i)]) (fun _ => [(b12, .cells (zS.map iD))]) (fun i => i ≤ 33 ∧ ∀ j, j < i → cutV j (iat par j) = iat par j) (fun i => 33 - i) 0 ⟨⟨by omega, by intro j hj; omega⟩, EnvLe.of_eq rfl, .refl _⟩ ?_
 rintro i ⟨hi, hj⟩
 refine sr_ [1, 4, 5, 6, 8, 9, 12, 14, 31, 32, 33] [] [] fun κ ξ hκ hξ => ?_
 simp +decide only [go_sem, hb12, hb14]
 refine hκ _ _ ?_
 refine sq ?_
 refine cd_ (fun c0 => ?_) (fun c0 => ?_)
 ·simp only [go_sem] at c0
  have hi' : i < 33 := by omega
  have hhd := hd_i (l := par) (k := i) (by omega)
  have hcd := cutL_hd hi'
  have hce := cutL_le hi'
  refine sk ?_
  refine sq ?_
  refine bl ?_
  refine sr_ [1, 4, 5, 6, 8, 9, 12, 14, 15, 16, 31, 32] [] [] fun κ ξ hκ hξ => ?_
  simp +decide only [go_sem, hpl, hb12, hb14, c0, hhd, Nat.mul_one]
  repeat with_reducible refine an_ ?_
  refine hκ _ _ ?_
  refine sr_ [1, 4, 5, 6, 8, 9, 12, 14, 31, 32, 42] [] [] fun κ ξ hκ hξ => ?_
  simp +decide only [go_sem, hb12, hb14, hcd, hce, Nat.mul_one]
  repeat with_reducible refine an_ ?_
  refine cut_call ?_
  simp +decide only [go_sem, hb12, hb14]
  refine hκ _ _ ?_
  refine cd_ (fun c1 => ?_) (fun c1 => ?_)
  ·try simp only [go_sem] at c1
   refine sr_ [12, 13] [] [] fun κ ξ hκ hξ => ?_
   simp +decide only [go_sem, hb12, hb14, Nat.zero_add, c1]
   refine hκ _ _ ?_
   refine rt ?_
   refine retE ?_
   simp +decide only [go_sem, resD, resV, hpl, ↓hch, h33, hb12, hb14, c0, hi', hhd, hcd, hce, Nat.mul_one, Nat.zero_add, c1]
   rw [show styR d.nodes d.rules x w s lg par wd bx = (zS, 1) by unfold styR; exact if_neg fun h => by rw [parB_no hi' (by simpa [iat] using c1)] at h; simp at h]
   rfl
  ·try simp only [go_sem] at c1
   refine sk ?_
   refine rr_ [1, 4, 5, 6, 8, 9, 12, 14, 31, 32] [] [] fun κ ξ hκ hξ => ?_
   simp +decide only [go_sem, hb12, hb14, c1]
   refine hκ _ _ ?_
   refine ⟨i + 1, ⟨⟨by omega, ?_⟩, by omega⟩, EnvLe.of_eq (by rw [w64 (by omega)]; rfl), .refl _⟩
   intro j h
   rcases Nat.lt_succ_iff_lt_or_eq.1 h with h | rfl
   ·exact hj j h
   ·first | assumption | simpa [iat] using c1
 ·simp only [go_sem] at c0
  have hpb : parB par = true := parB_yes fun j h => hj j (by omega)
  refine ex ?_
  refine srz_ [(17, [])] [4, 6, 8, 9, 12, 14, 17] [] [] fun κ ξ hκ hξ => ?_
  simp +decide only [go_sem, hb12, hb14, c0]
  intro b17 hb17
  refine hκ _ _ ?_
  refine sq ?_
  refine sr_ [4, 6, 8, 9, 12, 14, 17, 55] [] [] fun κ ξ hκ hξ => ?_
  simp +decide only [go_sem, hb12, hb14, hb17]
  refine callF (cwi_w _ _ _) ?_
  simp +decide only [go_sem, hb12, hb14, hb17]
  refine hκ _ _ ?_
  refine cd_ (fun c2 => ?_) (fun c2 => ?_)
  ·try simp only [go_sem] at c2
   refine sr_ [12, 13] [] [] fun κ ξ hκ hξ => ?_
   simp +decide only [go_sem, hb12, hb14, hb17, c2]
   refine hκ _ _ ?_
   refine rt ?_
   refine retE ?_
   simp +decide only [go_sem, resD, resV, hpl, ↓hch, h33, hb12, hb14, c0, hb17, c2]
   rw [show styR d.nodes d.rules x w s lg par wd bx = (zS, 1) by unfold styR; exact if_neg fun h => by omega]
   rfl
  ·try simp only [go_sem] at c2
   refine sk ?_
   refine sq ?_
   refine sr_ [4, 6, 8, 9, 12, 14, 17, 18] [] [] fun κ ξ hκ hξ => ?_
   simp +decide only [go_sem, hb12, hb14, hb17, c2]
   refine callF (chk_w _ _ _ _ _ _ _) ?_
   simp +decide only [go_sem, hb12, hb14, hb17]
   refine hκ _ _ ?_
   refine sr_ [4, 6, 8, 9, 12, 14, 17, 18, 60] [] [] fun κ ξ hκ hξ => ?_
   simp +decide only [go_sem, hb12, hb14, hb17]
   refine hκ _ _ ?_
   refine cd_ (fun c3 => ?_) (fun c3 => ?_)
   ·simp only [go_sem] at c3
    refine sr_ [12, 13] [] [] fun κ ξ hκ hξ => ?_
    simp +decide only [go_sem, hb12, hb14, hb17, c3]
    refine hκ _ _ ?_
    refine rt ?_
    refine retE ?_
    simp +decide only [go_sem, resD, resV, hpl, ↓hch, h33, hb12, hb14, c0, hb17, c2, c3]
    rw [show styR d.nodes d.rules x w s lg par wd bx = (zS, ckE d.nodes d.rules x w s lg bx) by unfold styR; rw [if_pos ⟨hpb, c2⟩, if_neg c3]]
    rfl
   ·simp only [go_sem] at c3
    obtain ⟨hckb, hidb, hix⟩ := ckE_zero c3
    obtain ⟨⟨⟨htb, hrb⟩, hrd⟩, hbx⟩ := ckB_iff.1 hckb
    obtain ⟨hrs, hdk⟩ := rules_dc hrb
    have hcl := claims_len d.nodes d.rules x w s lg bx
    have hcl6 : (clD (claimsR d.nodes d.rules x w s lg bx)).length = 198 := by rw [clD_len, hcl]
    have hq8 : (List.map iD (List.drop 8 par)).headD .top = .int .i64 (iat par 8) := hd_i (by omega)
    have hq9 : (List.map iD (List.drop 9 par)).headD .top = .int .i64 (iat par 9) := hd_i (by omega)
    have hq10 : (List.map iD (List.drop 10 par)).headD .top = .int .i64 (iat par 10) := hd_i (by omega)
    have hq11 : (List.map iD (List.drop 11 par)).headD .top = .int .i64 (iat par 11) := hd_i (by omega)
    have h8d : List.drop 8 (List.drop 25 par) = [] := List.drop_eq_nil_of_le (by rw [List.length_drop]; omega)
    have h25 : (List.drop 25 par).length = 8 := by rw [List.length_drop]; omega
    have h8t : (List.drop 25 par).take 8 = List.drop 25 par := List.take_of_length_le (by omega)
    refine sk ?_
    refine sr_ [4, 6, 8, 9, 12, 14, 17, 19] [] [] fun κ ξ hκ hξ => ?_
    simp +decide only [go_sem, hb12, hb14, hb17, c3]
    refine callF (frst_w) ?_
    simp +decide only [go_sem, hb12, hb14, hb17]
    intro b19 hb19
    refine hκ _ _ ?_
    refine sq ?_
    refine sr_ [4, 6, 8, 9, 12, 14, 17, 19, 64, 65, 66] [] [] fun κ ξ hκ hξ => ?_
    simp +decide only [go_sem, hb12, hb14, hb17, hb19]
    refine hκ _ _ ?_
    refine bl ?_
    refine lpN 5 ?_
    refine rnd ?_
    refine sr_ [4, 6, 8, 9, 12, 14, 17, 19, 64, 65, 66, 67] [] [] fun κ ξ hκ hξ => ?_
    simp +decide only [go_sem, hb12, hb14, hb17, hb19]
    refine hκ _ _ ?_
    refine sq ?_
    refine cdt (by rfl) ?_
    refine sk ?_
    refine sq ?_
    refine bl ?_
    refine sr_ [4, 6, 8, 9, 12, 14, 17, 19, 21, 64, 65, 66] [] [] fun κ ξ hκ hξ => ?_
    simp +decide only [go_sem, hb12, hb14, hb17, hb19]
    refine hκ _ _ ?_
    refine rr_ [4, 6, 8, 9, 12, 14, 17, 19, 64, 65, 66] [] [] fun κ ξ hκ hξ => ?_
    simp +decide only [go_sem, hb12, hb14, hb17, hq8, hb19]
    repeat with_reducible refine an_ ?_
    refine hκ _ _ ?_
    refine rr_ [4, 6, 8, 9, 12, 14, 17, 19, 64, 65, 66] [] [] fun κ ξ hκ hξ => ?_
    simp +decide only [go_sem, hb12, hb14, hb17, hb19]
    refine hκ _ _ ?_
    refine rnd ?_
    refine sr_ [4, 6, 8, 9, 12, 14, 17, 19, 64, 65, 66, 67] [] [] fun κ ξ hκ hξ => ?_
    simp +decide only [go_sem, hb12, hb14, hb17, hb19]
    refine hκ _ _ ?_
    refine sq ?_
    refine cdt (by rfl) ?_
    refine sk ?_
    refine sq ?_
    refine bl ?_
    refine sr_ [4, 6, 8, 9, 12, 14, 17, 19, 21, 64, 65, 66] [] [] fun κ ξ hκ hξ => ?_
    simp +decide only [go_sem, hb12, hb14, hb17, hb19]
    refine hκ _ _ ?_
    refine rr_ [4, 6, 8, 9, 12, 14, 17, 19, 64, 65, 66] [] [] fun κ ξ hκ hξ => ?_
    simp +decide only [go_sem, hb12, hb14, hb17, hq9, hb19]
    repeat with_reducible refine an_ ?_
    refine hκ _ _ ?_
    refine rr_ [4, 6, 8, 9, 12, 14, 17, 19, 64, 65, 66] [] [] fun κ ξ hκ hξ => ?_
    simp +decide only [go_sem, hb12, hb14, hb17, hb19]
    refine hκ _ _ ?_
    refine rnd ?_
    refine sr_ [4, 6, 8, 9, 12, 14, 17, 19, 64, 65, 66, 67] [] [] fun κ ξ hκ hξ => ?_
    simp +decide only [go_sem, hb12, hb14, hb17, hb19]
    refine hκ _ _ ?_
    refine sq ?_
    refine cdt (by rfl) ?_
    refine sk ?_
    refine sq ?_
    refine bl ?_
    refine sr_ [4, 6, 8, 9, 12, 14, 17, 19, 21, 64, 65, 66] [] [] fun κ ξ hκ hξ => ?_
    simp +decide only [go_sem, hb12, hb14, hb17, hb19]
    refine hκ _ _ ?_
    refine rr_ [4, 6, 8, 9, 12, 14, 17, 19, 64, 65, 66] [] [] fun κ ξ hκ hξ => ?_
    simp +decide only [go_sem, hb12, hb14, hb17, hq10, hb19]
    repeat with_reducible refine an_ ?_
    refine hκ _ _ ?_
    refine rr_ [4, 6, 8, 9, 12, 14, 17, 19, 64, 65, 66] [] [] fun κ ξ hκ hξ => ?_
    simp +decide only [go_sem, hb12, hb14, hb17, hb19]
    refine hκ _ _ ?_
    refine rnd ?_
    refine sr_ [4, 6, 8, 9, 12, 14, 17, 19, 64, 65, 66, 67] [] [] fun κ ξ hκ hξ => ?_
    simp +decide only [go_sem, hb12, hb14, hb17, hb19]
    refine hκ _ _ ?_
    refine sq ?_
    refine cdt (by rfl) ?_
    refine sk ?_
    refine sq ?_
    refine bl ?_
    refine sr_ [4, 6, 8, 9, 12, 14, 17, 19, 21, 64, 65, 66] [] [] fun κ ξ hκ hξ => ?_
    simp +decide only [go_sem, hb12, hb14, hb17, hb19]
    refine hκ _ _ ?_
    refine rr_ [4, 6, 8, 9, 12, 14, 17, 19, 64, 65, 66] [] [] fun κ ξ hκ hξ => ?_
    simp +decide only [go_sem, hb12, hb14, hb17, hq11, hb19]
    repeat with_reducible refine an_ ?_
    refine hκ _ _ ?_
    refine rr_ [4, 6, 8, 9, 12, 14, 17, 19, 64, 65, 66] [] [] fun κ ξ hκ hξ => ?_
    simp +decide only [go_sem, hb12, hb14, hb17, hb19]
    refine hκ _ _ ?_
    refine rnd ?_
    refine sr_ [4, 6, 8, 9, 12, 14, 17, 19, 64, 65, 66, 67] [] [] fun κ ξ hκ hξ => ?_
    simp +decide only [go_sem, hb12, hb14, hb17, hb19]
    refine hκ _ _ ?_
    refine sq ?_
    refine cdf (by rfl) ?_
    refine ex ?_
    refine srd_ [4, 6, 8, 9, 12, 14, 17, 19] [] [78] [] fun κ ξ hκ hξ => ?_
    simp +decide only [go_sem, hpl, ↓hch, h33, hb12, hb14, hb17, hb19]
    refine ncp (e := 3) (g := false) (sz := 1) (by rfl) (by rfl) (by simp only [go_sem]) ⟨.inr rfl, irow_cell _, by rw [List.length_map, List.length_drop, hpl], by simp only [go_sem, List.length_map, List.length_set, firstS_len]; omega⟩ (st0_put hpl) ?_
    simp +decide only [go_sem]
    refine hκ _ _ ?_
    refine srz_ [(22, [])] [4, 6, 8, 9, 12, 14, 19, 22] [] [] fun κ ξ hκ hξ => ?_
    simp +decide only [go_sem, hb12, hb14, hb17, hb19]
    refine callF (clms_w _ _ _ _ _ _ _ hrs (fun i hi => (hdk i hi).1) (fun i hi k hk => ((hdk i hi).2 k hk).1)) ?_
    simp +decide only [go_sem, hb12, hb14, hb17, hcl6, hb19]
    intro b22 hb22
    refine hκ _ _ ?_
    refine sq ?_
    refine sr_ [4, 6, 8, 9, 12, 14, 19, 22, 83, 84, 85] [] [] fun κ ξ hκ hξ => ?_
    simp +decide only [go_sem, hb12, hb14, hb17, hb19, hb22]
    refine hκ _ _ ?_
    refine bl ?_
    refine lpN 3 ?_
    refine rnd ?_
    refine sr_ [4, 6, 8, 9, 12, 14, 19, 22, 83, 84, 85, 86] [] [] fun κ ξ hκ hξ => ?_
    simp +decide only [go_sem, hb12, hb14, hb17, hb19, hb22]
    refine hκ _ _ ?_
    refine weak _ (EnvLe.refl _) (σ' := [(b19, _), (b12, _)]) (by first | exact .refl _ | exact .cons _ (.refl _)) ?_
    refine sq ?_
    refine cdt (by rfl) ?_
    refine sk ?_
    refine sq ?_
    refine bl ?_
    refine srz_ [(24, [])] [4, 6, 8, 9, 12, 14, 19, 22, 24, 83, 84, 85] [] [] fun κ ξ hκ hξ => ?_
    simp +decide only [go_sem, hb12, hb14, hb17, hb19, hb22]
    intro b24 hb24
    refine hκ _ _ ?_
    refine sr_ [4, 6, 8, 9, 12, 14, 19, 22, 24, 25, 83, 84, 85] [] [] fun κ ξ hκ hξ => ?_
    simp +decide only [go_sem, hpl, h33, hb12, hb14, hb17, hb19, hb22, hb24]
    refine callF (vars_w _ (by assumption)) ?_
    simp +decide only [go_sem, hb12, hb14, hb17, h25, hb19, hb22, hb24]
    intro b25 hb25
    refine hκ _ _ ?_
    refine sq ?_
    refine sr_ [4, 6, 8, 9, 12, 14, 19, 22, 24, 25, 83, 84, 85, 93] [] [] fun κ ξ hκ hξ => ?_
    simp +decide only [go_sem, hb12, hb14, hb17, hb19, hb22, hb24, hb25]
    refine hκ _ _ ?_
    refine cd_ (fun c4 => ?_) (fun c4 => ?_)
    ·exfalso
     revert c4
     simp [go_sem]
    ·skip
     refine sk ?_
     refine sr_ [4, 6, 8, 9, 12, 14, 19, 22, 24, 25, 26, 83, 84, 85] [] [] fun κ ξ hκ hξ => ?_
     simp +decide only [go_sem, hb12, hb14, hb17, hb19, hb22, hb24, hb25]
     refine hκ _ _ ?_
     refine bl ?_
     obtain ⟨T1, hT1⟩ : ∃ T, T = stF d.rules (claimsR d.nodes d.rules x w s lg bx) wd s (par.drop 25) 8 25 (st0 par) := ⟨_, rfl⟩
     refine lp (α := Nat × List Int) (fun z => mk [(4, .int .i64 wd), (6, .el (dorow d)), (8, .el [.int .i64 w, .int .i64 s, .int .i64 lg]), (9, .el (par.map iD)), (12, .ptr b12 0), (14, .el cutL), (19, .ptr b19 0), (22, .el (clD (claimsR d.nodes d.rules x w s lg bx))), (24, .el [.int .i64 25, .int .i64 32]), (25, .ptr b25 0), (26, .int .i64 z.1), (83, .sl 2 [[.int .i64 25, .int .i64 32], [.int .i64 1, .int .i64 24]] .full), (84, .int .i64 2), (85, .int .i64 0)]) (fun z => [(b25, .cells ((par.drop 25).map iD)), (b19, .cells (z.2.map iD)), (b12, .cells (zS.map iD))]) (fun z => 25 ≤ z.1 ∧ z.1 ≤ 33 ∧ z.2.length = 33 ∧ T1 = stF d.rules (claimsR d.nodes d.rules x w s lg bx) wd s (par.drop 25) (33 - z.1) z.1 z.2) (fun z => 33 - z.1) (25, (st0 par)) ⟨⟨by simp only; omega, by simp only; omega, st0_len hpl, hT1⟩, EnvLe.of_eq rfl, .refl _⟩ ?_
     rintro ⟨p, o1⟩ ⟨hlp, hup, hnp, hsp⟩
     simp only at hlp hup hnp hsp
     refine sq ?_
     refine sr_ [4, 6, 8, 9, 12, 14, 19, 22, 24, 25, 26, 83, 84, 85, 101] [] [] fun κ ξ hκ hξ => ?_
     simp +decide only [go_sem, hb12, hb14, hb17, hb19, hb22, hb24, hb25]
     refine hκ _ _ ?_
     refine cd_ (fun c5 => ?_) (fun c5 => ?_)
     ·simp only [go_sem] at c5
      have hpi : p < 33 := by omega
      have hcdr := clD_drop (o := (claimsR d.nodes d.rules x w s lg bx)) (p := p) (by rw [hcl]; omega)
      have hcu := cutL_hd hpi
      have hcv := cutL_le hpi
      have hok := claims_ok d.nodes d.rules x w s lg bx p
      refine sk ?_
      refine sq ?_
      refine bl ?_
      refine srz_ [(27, [])] [4, 6, 8, 9, 12, 14, 19, 22, 24, 25, 26, 27, 83, 84, 85] [] [] fun κ ξ hκ hξ => ?_
      simp +decide only [go_sem, hb12, hb14, hb17, hb19, hb22, hb24, hb25, c5, hcdr, Nat.zero_add]
      repeat with_reducible refine an_ ?_
      intro b27 hb27
      refine hκ _ _ ?_
      refine sq ?_
      refine sr_ [4, 6, 8, 9, 12, 14, 19, 22, 24, 25, 26, 27, 83, 84, 85, 109] [] [] fun κ ξ hκ hξ => ?_
      simp +decide only [go_sem, hb12, hb14, hb17, hb19, hb22, hb24, hb25, Nat.zero_add, hb27]
      refine hκ _ _ ?_
      refine cd_ (fun c6 => ?_) (fun c6 => ?_)
      ·simp only [go_sem] at c6
       refine ex ?_
       refine rr_ [4, 6, 8, 9, 12, 14, 19, 22, 24, 25, 26, 83, 84, 85] [] [] fun κ ξ hκ hξ => ?_
       simp +decide only [go_sem, hb12, hb14, hb17, hb19, hb22, hb24, hb25, hb27, c6]
       refine hκ _ _ ?_
       refine ⟨(p + 1, o1), ⟨⟨by simp only; omega, by simp only; omega, hnp, ?_⟩, by simp only; omega⟩, EnvLe.of_eq (by rw [w64 (n := (p : Int) + 1) (by omega)]; rfl), .refl _⟩
       simp only
       rw [hsp, show 33 - p = (33 - (p + 1)) + 1 by omega, stF, if_neg (by rw [c6]; simp)]
      ·simp only [go_sem] at c6
       obtain ⟨⟨hru0, hru1⟩, hk0, hk1⟩ := hok c6
       obtain ⟨ru, hru⟩ : ∃ ru : Nat, (clat (claimsR d.nodes d.rules x w s lg bx) p).ru = (ru : Int) := ⟨(clat (claimsR d.nodes d.rules x w s lg bx) p).ru.toNat, by omega⟩
       obtain ⟨kk, hkk⟩ : ∃ kk : Nat, (clat (claimsR d.nodes d.rules x w s lg bx) p).k = (kk : Int) := ⟨(clat (claimsR d.nodes d.rules x w s lg bx) p).k.toNat, by omega⟩
       rw [hru, Int.toNat_natCast, hkk] at hk1
       rw [hru] at hru1
       have hce : clE d.rules (clat (claimsR d.nodes d.rules x w s lg bx) p) = (dcat (ruat d.rules ru).decls kk).val := by unfold clE; rw [hru, hkk]; rfl
       have hru2 : (0 : Int) ≤ (ru : Int) := by omega
       have hkk2 : (0 : Int) ≤ (kk : Int) := by omega
       refine sk ?_
       refine srd_ [4, 6, 8, 9, 12, 14, 19, 22, 24, 25, 26, 28, 29, 83, 84, 85] [] [127] [] fun κ ξ hκ hξ => ?_
       simp +decide only [go_sem, hb12, hb14, hb17, h25, h8t, hb19, hb22, hb24, hb25, Nat.zero_add, hb27, c6, hru, hkk, hru1, hk1, hru2, hkk2]
       refine scallF (ev_w _ _ _ (by assumption) _) ?_
       simp +decide only [go_sem, hb12, hb14, hb17, hb19, hb22, hb24, hb25, hb27]
       refine hκ _ _ ?_
       refine sq ?_
       refine sr_ [4, 6, 8, 9, 12, 14, 19, 22, 24, 25, 26, 28, 29, 83, 84, 85, 131] [] [] fun κ ξ hκ hξ => ?_
       simp +decide only [go_sem, hb12, hb14, hb17, hb19, hb22, hb24, hb25, hb27]
       refine hκ _ _ ?_
       refine cd_ (fun c7 => ?_) (fun c7 => ?_)
       ·try simp only [go_sem] at c7
        refine sr_ [12, 13] [] [] fun κ ξ hκ hξ => ?_
        simp +decide only [go_sem, hb12, hb14, hb17, hb19, hb22, hb24, hb25, Nat.zero_add, hb27, c7]
        refine hκ _ _ ?_
        refine rt ?_
        refine retE ?_
        simp +decide only [go_sem, resD, resV, hpl, ↓hch, h33, hb12, hb14, c0, hb17, c2, c3, hcl, hcl6, hq8, hq9, hq10, hq11, h25, h8t, h8d, hb19, hb22, hb24, hb25, c4, hnp, c5, hpi, hcdr, hcu, hcv, Nat.mul_one, Nat.zero_add, hb27, c6, hru, hkk, hru1, hk1, hru2, hkk2, c7]
        have e1 : T1 = (zS, (evV wd s (List.drop 25 par) (dcat (ruat d.rules ru).decls kk).val).2) := by rw [hsp, show 33 - p = (33 - (p + 1)) + 1 by omega, stF, if_pos c6, hce, if_neg c7]
        have e : styR d.nodes d.rules x w s lg par wd bx = (zS, (evV wd s (List.drop 25 par) (dcat (ruat d.rules ru).decls kk).val).2) := by
         unfold styR
         rw [if_pos ⟨hpb, c2⟩, if_pos c3]
         unfold styI
         rw [← hT1, e1]
         exact if_neg c7
        rw [e]
        first | rfl | exact ⟨rfl, rfl⟩
       ·try simp only [go_sem] at c7
        refine sk ?_
        refine rr_ [4, 6, 8, 9, 12, 14, 19, 22, 24, 25, 26, 83, 84, 85] [] [] fun κ ξ hκ hξ => ?_
        simp +decide only [go_sem, hb12, hb14, hb17, hb19, hb22, hb24, hb25, hcu, hcv, Nat.mul_one, hb27, c7]
        repeat with_reducible refine an_ ?_
        refine cut_call ?_
        simp +decide only [go_sem, hb12, hb14, hb17, hb19, hb22, hb24, hb25, hnp, hpi, Nat.mul_one, Nat.zero_add, hb27]
        repeat with_reducible refine an_ ?_
        refine hκ _ _ ?_
        refine rr_ [4, 6, 8, 9, 12, 14, 19, 22, 24, 25, 26, 83, 84, 85] [] [] fun κ ξ hκ hξ => ?_
        simp +decide only [go_sem, hb12, hb14, hb17, hb19, hb22, hb24, hb25, hb27]
        refine hκ _ _ ?_
        refine ⟨(p + 1, o1.set p (cutV p (evV wd s (par.drop 25) (dcat (ruat d.rules ru).decls kk).val).1)), ⟨⟨by simp only; omega, by simp only; omega, by simpa using hnp, ?_⟩, by simp only; omega⟩, EnvLe.of_eq (by rw [w64 (n := (p : Int) + 1) (by omega)]; rfl), .refl _⟩
        simp only
        rw [hsp, show 33 - p = (33 - (p + 1)) + 1 by omega, stF, if_pos c6, hce, if_pos c7]
     ·simp only [go_sem] at c5
      refine ex ?_
      refine rr_ [4, 6, 8, 9, 12, 14, 19, 22, 83, 84, 85] [] [] fun κ ξ hκ hξ => ?_
      simp +decide only [go_sem, hb12, hb14, hb17, hb19, hb22, hb24, hb25, c5]
      refine hκ _ _ ?_
      refine rnd ?_
      refine sr_ [4, 6, 8, 9, 12, 14, 19, 22, 83, 84, 85, 86] [] [] fun κ ξ hκ hξ => ?_
      simp +decide only [go_sem, hb12, hb14, hb17, hb19, hb22, hb24, hb25]
      refine hκ _ _ ?_
      refine weak _ (EnvLe.refl _) (σ' := [(b19, _), (b12, _)]) (by first | exact .refl _ | exact .cons _ (.refl _)) ?_
      refine sq ?_
      refine cdt (by rfl) ?_
      refine sk ?_
      refine sq ?_
      refine bl ?_
      refine srz_ [(24, [])] [4, 6, 8, 9, 12, 14, 19, 22, 24, 83, 84, 85] [] [] fun κ ξ hκ hξ => ?_
      simp +decide only [go_sem, hb12, hb14, hb17, hb19, hb22, hb24, hb25]
      intro b24 hb24
      refine hκ _ _ ?_
      refine sr_ [4, 6, 8, 9, 12, 14, 19, 22, 24, 25, 83, 84, 85] [] [] fun κ ξ hκ hξ => ?_
      simp +decide only [go_sem, hpl, h33, hb12, hb14, hb17, hb19, hb22, hb24, hb25, hb24]
      refine callF (vars_w _ (by assumption)) ?_
      simp +decide only [go_sem, hb12, hb14, hb17, h25, hb19, hb22, hb24, hb25, hb24]
      intro b25 hb25
      refine hκ _ _ ?_
      refine sq ?_
      refine sr_ [4, 6, 8, 9, 12, 14, 19, 22, 24, 25, 83, 84, 85, 93] [] [] fun κ ξ hκ hξ => ?_
      simp +decide only [go_sem, hb12, hb14, hb17, hb19, hb22, hb24, hb25, hb24, hb25]
      refine hκ _ _ ?_
      refine cd_ (fun c8 => ?_) (fun c8 => ?_)
      ·have o25 : (List.drop 25 o1).length = 8 := by rw [List.length_drop]; omega
       have o8t : (List.drop 25 o1).take 8 = List.drop 25 o1 := List.take_of_length_le (by omega)
       have o33 : o1.take 33 = o1 := List.take_of_length_le (by omega)
       refine rr_ [4, 6, 8, 9, 12, 14, 19, 22, 24, 25, 83, 84, 85] [] [] fun κ ξ hκ hξ => ?_
       simp +decide only [go_sem, hb12, hb14, hb17, hb19, hb22, hb24, hb25, hnp, hb24, hb25, o33]
       refine callF (vars_w _ (by assumption)) ?_
       simp +decide only [go_sem, hb12, hb14, hb17, h25, h8d, hb19, hb22, hb24, hb25, hb24, hb25, o25]
       refine hκ _ _ ?_
       refine sr_ [4, 6, 8, 9, 12, 14, 19, 22, 24, 25, 26, 83, 84, 85] [] [] fun κ ξ hκ hξ => ?_
       simp +decide only [go_sem, hb12, hb14, hb17, hb19, hb22, hb24, hb25, hb24, hb25]
       refine hκ _ _ ?_
       refine bl ?_
       obtain ⟨T2, hT2⟩ : ∃ T, T = stF d.rules (claimsR d.nodes d.rules x w s lg bx) wd s (o1.drop 25) 24 1 o1 := ⟨_, rfl⟩
       refine lp (α := Nat × List Int) (fun z => mk [(4, .int .i64 wd), (6, .el (dorow d)), (8, .el [.int .i64 w, .int .i64 s, .int .i64 lg]), (9, .el (par.map iD)), (12, .ptr b12 0), (14, .el cutL), (19, .ptr b19 0), (22, .el (clD (claimsR d.nodes d.rules x w s lg bx))), (24, .el [.int .i64 1, .int .i64 24]), (25, .ptr b25 0), (26, .int .i64 z.1), (83, .sl 2 [[.int .i64 25, .int .i64 32], [.int .i64 1, .int .i64 24]] .full), (84, .int .i64 2), (85, .int .i64 1)]) (fun z => [(b25, .cells ((o1.drop 25).map iD)), (b19, .cells (z.2.map iD)), (b12, .cells (zS.map iD))]) (fun z => 1 ≤ z.1 ∧ z.1 ≤ 25 ∧ z.2.length = 33 ∧ T2 = stF d.rules (claimsR d.nodes d.rules x w s lg bx) wd s (o1.drop 25) (25 - z.1) z.1 z.2) (fun z => 25 - z.1) (1, o1) ⟨⟨by simp only; omega, by simp only; omega, hnp, hT2⟩, EnvLe.of_eq rfl, .refl _⟩ ?_
       rintro ⟨q, o2⟩ ⟨hlq, huq, hnq, hsq⟩
       simp only at hlq huq hnq hsq
       refine sq ?_
       refine sr_ [4, 6, 8, 9, 12, 14, 19, 22, 24, 25, 26, 83, 84, 85, 101] [] [] fun κ ξ hκ hξ => ?_
       simp +decide only [go_sem, hb12, hb14, hb17, hb19, hb22, hb24, hb25, hb24, hb25]
       refine hκ _ _ ?_
       refine cd_ (fun c9 => ?_) (fun c9 => ?_)
       ·simp only [go_sem] at c9
        have hpi : q < 33 := by omega
        have hcdr := clD_drop (o := (claimsR d.nodes d.rules x w s lg bx)) (p := q) (by rw [hcl]; omega)
        have hcu := cutL_hd hpi
        have hcv := cutL_le hpi
        have hok := claims_ok d.nodes d.rules x w s lg bx q
        refine sk ?_
        refine sq ?_
        refine bl ?_
        refine srz_ [(27, [])] [4, 6, 8, 9, 12, 14, 19, 22, 24, 25, 26, 27, 83, 84, 85] [] [] fun κ ξ hκ hξ => ?_
        simp +decide only [go_sem, hb12, hb14, hb17, hb19, hb22, hb24, hb25, hb24, hb25, c9, hcdr, Nat.zero_add]
        repeat with_reducible refine an_ ?_
        intro b27 hb27
        refine hκ _ _ ?_
        refine sq ?_
        refine sr_ [4, 6, 8, 9, 12, 14, 19, 22, 24, 25, 26, 27, 83, 84, 85, 109] [] [] fun κ ξ hκ hξ => ?_
        simp +decide only [go_sem, hb12, hb14, hb17, hb19, hb22, hb24, hb25, hb24, hb25, Nat.zero_add, hb27]
        refine hκ _ _ ?_
        refine cd_ (fun c10 => ?_) (fun c10 => ?_)
        ·simp only [go_sem] at c10
         refine ex ?_
         refine rr_ [4, 6, 8, 9, 12, 14, 19, 22, 24, 25, 26, 83, 84, 85] [] [] fun κ ξ hκ hξ => ?_
         simp +decide only [go_sem, hb12, hb14, hb17, hb19, hb22, hb24, hb25, hb24, hb25, hb27, c10]
         refine hκ _ _ ?_
         refine ⟨(q + 1, o2), ⟨⟨by simp only; omega, by simp only; omega, hnq, ?_⟩, by simp only; omega⟩, EnvLe.of_eq (by rw [w64 (n := (q : Int) + 1) (by omega)]; rfl), .refl _⟩
         simp only
         rw [hsq, show 25 - q = (25 - (q + 1)) + 1 by omega, stF, if_neg (by rw [c10]; simp)]
        ·simp only [go_sem] at c10
         obtain ⟨⟨hru0, hru1⟩, hk0, hk1⟩ := hok c10
         obtain ⟨ru, hru⟩ : ∃ ru : Nat, (clat (claimsR d.nodes d.rules x w s lg bx) q).ru = (ru : Int) := ⟨(clat (claimsR d.nodes d.rules x w s lg bx) q).ru.toNat, by omega⟩
         obtain ⟨kk, hkk⟩ : ∃ kk : Nat, (clat (claimsR d.nodes d.rules x w s lg bx) q).k = (kk : Int) := ⟨(clat (claimsR d.nodes d.rules x w s lg bx) q).k.toNat, by omega⟩
         rw [hru, Int.toNat_natCast, hkk] at hk1
         rw [hru] at hru1
         have hce : clE d.rules (clat (claimsR d.nodes d.rules x w s lg bx) q) = (dcat (ruat d.rules ru).decls kk).val := by unfold clE; rw [hru, hkk]; rfl
         have hru2 : (0 : Int) ≤ (ru : Int) := by omega
         have hkk2 : (0 : Int) ≤ (kk : Int) := by omega
         refine sk ?_
         refine srd_ [4, 6, 8, 9, 12, 14, 19, 22, 24, 25, 26, 28, 29, 83, 84, 85] [] [127] [] fun κ ξ hκ hξ => ?_
         simp +decide only [go_sem, hb12, hb14, hb17, hb19, hb22, hb24, hb25, hb24, hb25, o25, o8t, Nat.zero_add, hb27, c10, hru, hkk, hru1, hk1, hru2, hkk2]
         refine scallF (ev_w _ _ _ (by assumption) _) ?_
         simp +decide only [go_sem, hb12, hb14, hb17, hb19, hb22, hb24, hb25, hb24, hb25, hb27]
         refine hκ _ _ ?_
         refine sq ?_
         refine sr_ [4, 6, 8, 9, 12, 14, 19, 22, 24, 25, 26, 28, 29, 83, 84, 85, 131] [] [] fun κ ξ hκ hξ => ?_
         simp +decide only [go_sem, hb12, hb14, hb17, hb19, hb22, hb24, hb25, hb24, hb25, hb27]
         refine hκ _ _ ?_
         refine cd_ (fun c11 => ?_) (fun c11 => ?_)
         ·try simp only [go_sem] at c11
          refine sr_ [12, 13] [] [] fun κ ξ hκ hξ => ?_
          simp +decide only [go_sem, hb12, hb14, hb17, hb19, hb22, hb24, hb25, hb24, hb25, Nat.zero_add, hb27, c11]
          refine hκ _ _ ?_
          refine rt ?_
          refine retE ?_
          simp +decide only [go_sem, resD, resV, hpl, ↓hch, h33, hb12, hb14, c0, hb17, c2, c3, hcl, hcl6, hq8, hq9, hq10, hq11, h25, h8t, h8d, hb19, hb22, hb24, hb25, c4, hnp, c5, hb24, hb25, c8, o25, o8t, o33, hnq, c9, hpi, hcdr, hcu, hcv, Nat.mul_one, Nat.zero_add, hb27, c10, hru, hkk, hru1, hk1, hru2, hkk2, c11]
          have e1 : T1 = (o1, 0) := by rw [hsp, show 33 - p = 0 by omega, stF]
          have e2 : T2 = (zS, (evV wd s (List.drop 25 o1) (dcat (ruat d.rules ru).decls kk).val).2) := by rw [hsq, show 25 - q = (25 - (q + 1)) + 1 by omega, stF, if_pos c10, hce, if_neg c11]
          have e : styR d.nodes d.rules x w s lg par wd bx = T2 := by
           unfold styR
           rw [if_pos ⟨hpb, c2⟩, if_pos c3]
           unfold styI
           rw [← hT1, e1, hT2]
           exact if_pos rfl
          rw [e, e2]
          first | rfl | exact ⟨rfl, rfl⟩
         ·try simp only [go_sem] at c11
          refine sk ?_
          refine rr_ [4, 6, 8, 9, 12, 14, 19, 22, 24, 25, 26, 83, 84, 85] [] [] fun κ ξ hκ hξ => ?_
          simp +decide only [go_sem, hb12, hb14, hb17, hb19, hb22, hb24, hb25, hb24, hb25, hcu, hcv, Nat.mul_one, hb27, c11]
          repeat with_reducible refine an_ ?_
          refine cut_call ?_
          simp +decide only [go_sem, hb12, hb14, hb17, hb19, hb22, hb24, hb25, hb24, hb25, hnq, hpi, Nat.mul_one, Nat.zero_add, hb27]
          repeat with_reducible refine an_ ?_
          refine hκ _ _ ?_
          refine rr_ [4, 6, 8, 9, 12, 14, 19, 22, 24, 25, 26, 83, 84, 85] [] [] fun κ ξ hκ hξ => ?_
          simp +decide only [go_sem, hb12, hb14, hb17, hb19, hb22, hb24, hb25, hb24, hb25, hb27]
          refine hκ _ _ ?_
          refine ⟨(q + 1, o2.set q (cutV q (evV wd s (o1.drop 25) (dcat (ruat d.rules ru).decls kk).val).1)), ⟨⟨by simp only; omega, by simp only; omega, by simpa using hnq, ?_⟩, by simp only; omega⟩, EnvLe.of_eq (by rw [w64 (n := (q : Int) + 1) (by omega)]; rfl), .refl _⟩
          simp only
          rw [hsq, show 25 - q = (25 - (q + 1)) + 1 by omega, stF, if_pos c10, hce, if_pos c11]
       ·simp only [go_sem] at c9
        have q33 : o2.take 33 = o2 := List.take_of_length_le (by omega)
        refine ex ?_
        refine rr_ [4, 6, 8, 9, 12, 14, 19, 22, 83, 84, 85] [] [] fun κ ξ hκ hξ => ?_
        simp +decide only [go_sem, hb12, hb14, hb17, hb19, hb22, hb24, hb25, hb24, hb25, c9]
        refine hκ _ _ ?_
        refine rnd ?_
        refine sr_ [4, 6, 8, 9, 12, 14, 19, 22, 83, 84, 85, 86] [] [] fun κ ξ hκ hξ => ?_
        simp +decide only [go_sem, hb12, hb14, hb17, hb19, hb22, hb24, hb25, hb24, hb25]
        refine hκ _ _ ?_
        refine weak _ (EnvLe.refl _) (σ' := [(b19, _), (b12, _)]) (by first | exact .refl _ | exact .cons _ (.refl _)) ?_
        refine sq ?_
        refine cdf (by rfl) ?_
        refine ex ?_
        refine sr_ [12, 13] [] [] fun κ ξ hκ hξ => ?_
        simp +decide only [go_sem, hb12, hb14, hb17, hb19, hb22, hb24, hb25, hb24, hb25, hnq, q33, zS_end, Nat.zero_add]
        refine hκ _ _ ?_
        refine rt ?_
        refine retE ?_
        simp +decide only [go_sem, resD, resV, hpl, ↓hch, h33, hb12, hb14, c0, hb17, c2, c3, hcl, hcl6, hq8, hq9, hq10, hq11, h25, h8t, h8d, hb19, hb22, hb24, hb25, c4, hnp, c5, hb24, hb25, c8, o25, o8t, o33, hnq, c9, q33, zS_end, Nat.zero_add]
        have e1 : T1 = (o1, 0) := by rw [hsp, show 33 - p = 0 by omega, stF]
        have e2 : T2 = (o2, 0) := by rw [hsq, show 25 - q = 0 by omega, stF]
        have e : styR d.nodes d.rules x w s lg par wd bx = T2 := by
         unfold styR
         rw [if_pos ⟨hpb, c2⟩, if_pos c3]
         unfold styI
         rw [← hT1, e1, hT2]
         exact if_pos rfl
        rw [e, e2]
      ·exfalso
       revert c8
       simp [go_sem]
end
section
def rv (xs : List Int) (k : Nat) : List Int := (List.range xs.length).map fun p => if p < k ∨ xs.length - k ≤ p then iat xs (xs.length - 1 - p) else iat xs p
theorem rv_len (xs : List Int) (k : Nat) : (rv xs k).length = xs.length := by simp [rv]
theorem rv_at {xs : List Int} {k p : Nat} (h : p < xs.length) : iat (rv xs k) p = if p < k ∨ xs.length - k ≤ p then iat xs (xs.length - 1 - p) else iat xs p := by
 unfold rv
 rw [iat, List.getD_eq_getElem?_getD, List.getElem?_map, List.getElem?_range h]
 rfl
theorem iat_ext {a b : List Int} (hl : a.length = b.length) (h : ∀ j, j < a.length → iat a j = iat b j) : a = b := list_ext (d := 0) hl h
theorem rv_zero (xs : List Int) : rv xs 0 = xs := by
 refine iat_ext (rv_len _ _) fun j hj => ?_
 rw [rv_len] at hj
 rw [rv_at hj, if_neg (by omega)]
theorem iat_set {xs : List Int} {k : Nat} {v : Int} (h : k < xs.length) (j : Nat) : iat (xs.set k v) j = if j = k then v else iat xs j := by
 unfold iat
 simp only [List.getD_eq_getElem?_getD, List.getElem?_set]
 by_cases e : j = k
 ·subst e; simp [h]
 ·rw [if_neg (fun x => e x.symm), if_neg e]
theorem rv_swap {xs : List Int} {k : Nat} (h : k < xs.length - 1 - k) : (((rv xs k).set k (iat (rv xs k) (xs.length - 1 - k))).set (xs.length - 1 - k) (iat (rv xs k) k)) = rv xs (k + 1) := by
 have h1 : k < xs.length := by omega
 have h2 : xs.length - 1 - k < xs.length := by omega
 refine iat_ext (by rw [List.length_set, List.length_set, rv_len, rv_len]) fun j hj => ?_
 rw [List.length_set, List.length_set, rv_len] at hj
 rw [iat_set (by rw [List.length_set, rv_len]; exact h2), iat_set (by rw [rv_len]; exact h1), rv_at hj, rv_at hj, rv_at h1, rv_at h2]
 have e1 : xs.length - 1 - (xs.length - 1 - k) = k := by omega
 rw [if_neg (by omega : ¬ (k < k ∨ xs.length - k ≤ k)), if_neg (by omega : ¬ (xs.length - 1 - k < k ∨ xs.length - k ≤ xs.length - 1 - k))]
 by_cases ha : j = xs.length - 1 - k
 ·subst ha
  rw [if_pos rfl, if_pos (by omega), e1]
 ·rw [if_neg ha]
  by_cases hb : j = k
  ·subst hb
   rw [if_pos rfl, if_pos (by omega)]
  ·rw [if_neg hb]
   by_cases hc : j < k ∨ xs.length - k ≤ j
   ·rw [if_pos hc, if_pos (by omega)]
   ·rw [if_neg hc, if_neg (by omega)]
theorem rv_done {xs : List Int} {k : Nat} (h : ¬ k < xs.length - 1 - k) : rv xs k = xs.reverse := by
 refine iat_ext (by rw [rv_len, List.length_reverse]) fun j hj => ?_
 rw [rv_len] at hj
 have e : iat xs.reverse j = iat xs (xs.length - 1 - j) := by
  unfold iat
  rw [List.getD_eq_getElem?_getD, List.getD_eq_getElem?_getD, List.getElem?_reverse hj]
 rw [rv_at hj, e]
 split
 ·rfl
 ·congr 1; omega
theorem irow_flat : ∀ xs : List Int, (xs.map irow).flatten = xs.map (fun v => D.int .i64 v)
 | [] => rfl
 | a :: xs => by
  have ih := irow_flat xs
  simp only [List.map_cons, List.flatten_cons, ih]
  rfl
theorem irow_drop {xs : List Int} {k : Nat} (h : k < xs.length) : List.drop k (xs.map irow).flatten = .int .i64 (iat xs k) :: List.drop (k + 1) (xs.map irow).flatten := by
 rw [irow_flat, List.drop_eq_getElem_cons (by simpa using h)]
 congr 1
 simp [iat, List.getD_eq_getElem?_getD, h]
theorem irow_set {xs : List Int} {k : Nat} (v : Int) (h : k < xs.length) : (xs.map irow).set k (D.int .i64 v :: List.drop 1 ((xs.map irow).getD k [])) = (xs.set k v).map irow := by
 have e : (xs.map irow).getD k [] = irow (iat xs k) := by simp [iat, List.getD_eq_getElem?_getD, h]
 rw [e, List.map_set]
 rfl
def upL (l : List Nd) (i : Nat) : List Int := (i :: chn l i).map fun x => (nat l x).id
def pathL (l : List Nd) (i : Nat) : List Int := (upL l i).reverse
theorem upL_len (l : List Nd) (i : Nat) : (upL l i).length = (chn l i).length + 1 := by simp [upL]
theorem upL_take {l : List Nd} {i j x : Nat} (h : (chn l i)[j]? = some x) : (upL l i).take (j + 1 + 1) = (upL l i).take (j + 1) ++ [(nat l x).id] := by
 have e : (upL l i)[j + 1]? = some (nat l x).id := by simp [upL, h]
 rw [List.take_add_one, e]; rfl
theorem upL_tl {l : List Nd} {i j : Nat} (h : j ≤ (chn l i).length) : ((upL l i).take (j + 1)).length = j + 1 := by
 rw [List.length_take, upL_len]; omega
def ptD (rows : List (List D)) (n : Nat) : Option (Nat × Nat) → D
 | none => .sl 1 rows .full
 | some (b, c) => .arr b 1 n c
def ptS (rows : List (List D)) : Option (Nat × Nat) → Store
 | none => []
 | some (b, c) => [(b, .arr 1 rows c)]
theorem nappM_fullT {P : Program} {σ : Store} {ts : Array TypeId} {T U V : TypeId} {g : Bool} {sz by_ n : Nat} {z : List D} {rows new : List (List D)} {tk : Tok} {K : D → Store → Prop}
  (hn : rows.length = n) (hT : ts[0]? = some T) (hV : ts[1]? = some V) (hV' : (sle P V).isSome = true) (hs : sle P T = some (U, g, sz)) (hy : eby P T = some by_) (hz : zc P U = some z)
  (hside : (z.length = sz ∧ 0 < sz ∧ 0 < by_) ∧ rows.all (·.all D.isCell) = true ∧ new.all (·.all D.isCell) = true ∧ new ≠ [] ∧ (n + new.length) * by_ ≤ capB)
  (hK : ∀ b c, b ∉ σ.keys → n + new.length ≤ c → K (.arr b sz (n + new.length) c) ((b, .arr sz (rows ++ new) c) :: σ)) :
  nappM P σ ts (.sl sz rows .full) (.sl sz new tk) K := by
 subst hn
 obtain ⟨⟨hz1, h0, hb0⟩, hr, hc, hne, hfit⟩ := hside
 unfold nappM
 simp only [hT, Option.bind_some, hs, hy, rowsOf]
 exact ⟨⟨⟨z, hz, hz1⟩, ⟨V, hV, .inl hV'⟩, h0, hb0, by simp, hc⟩, ⟨by simp, by simp, hr, hfit⟩, fun e => absurd e hne, fun _ b cap hb hcap => hK b cap hb hcap⟩
theorem nappM_growN {P : Program} {ts : Array TypeId} {T U V : TypeId} {g : Bool} {sz by_ n b0 c0 : Nat} {z : List D} {rows new : List (List D)} {tk : Tok} {K : D → Store → Prop}
  (hn : rows.length = n) (hok : n ≤ c0) (hT : ts[0]? = some T) (hV : ts[1]? = some V) (hV' : (sle P V).isSome = true) (hs : sle P T = some (U, g, sz)) (hy : eby P T = some by_) (hz : zc P U = some z)
  (hside : (z.length = sz ∧ 0 < sz ∧ 0 < by_) ∧ new.all (·.all D.isCell) = true ∧ new ≠ [] ∧ (n + new.length) * by_ ≤ capB)
  (hK : ∀ b c, b ∉ Store.keys [] → n + new.length ≤ c → K (.arr b sz (n + new.length) c) [(b, .arr sz (rows ++ new) c)]) :
  nappM P [(b0, .arr sz rows c0)] ts (.arr b0 sz n c0) (.sl sz new tk) K := by
 subst hn
 exact nappM_grow (o := some (b0, c0)) (ρ := []) hok (apFr_nil _) hT hV hV' hs hy hz hside (fun b c hb h => hK b c hb h)
theorem irow_all (l : List Int) : (l.map irow).all (·.all D.isCell) = true := by
 rw [List.all_map, List.all_eq_true]; intro t _; rfl
end
section
attribute [local go_sem] List.length_map rowAt_n nrow rowAt_t trow rowAt_i irow
attribute [local go_sem] for_put for_put' for_look for_look'
theorem rev_w (xs : List Int) (bx c : Nat) (hx : xs.length ≤ 100000) : RCall Tryz.prog (.func 174) [.arr bx 1 xs.length c] [(bx, .arr 1 (xs.map irow) c)] (fun (_ : Unit) => .tup []) (fun (_ : Unit) => [(bx, .arr 1 (xs.reverse.map irow) c)]) (fun (_ : Unit) => True) := by
 refine fn_ Tryz.func174 (by rfl) (by rfl) (rs := []) (by rfl) (by simp [Tryz.f174]) ?_
 by_cases hx0 : xs.length = 0
 ·have hrv := rv_done (xs := xs) (k := 0) (by omega)
  refine sr_ [0, 2, 3] [] [] fun κ ξ hκ hξ => ?_
  simp +decide only [go_sem]
  refine ⟨⟨47, rfl, by rw [tf220]; rfl, by omega⟩, ?_⟩
  refine hκ _ _ ?_
  refine bl ?_
  refine lp (α := Nat) (fun _ => mk [(0, .arr bx 1 xs.length c), (2, .int .i64 0), (3, .int .i64 (IntKind.wrap .i64 ((xs.length : Int) - 1)))]) (fun _ => [(bx, .arr 1 (xs.map irow) c)]) (fun _ => True) (fun _ => 0) 0 ⟨trivial, EnvLe.of_eq rfl, .refl _⟩ ?_
  intro k _
  refine sq ?_
  refine sr_ [0, 2, 3, 9] [] [] fun κ ξ hκ hξ => ?_
  simp +decide only [go_sem]
  refine hκ _ _ ?_
  refine cd_ (fun c0 => ?_) (fun c0 => ?_)
  ·exfalso
   simp only [go_sem, hx0] at c0
   revert c0
   decide
  ·skip
   refine ex ?_
   rw [show xs.reverse = xs from by rw [← hrv, rv_zero]]
   refine retRn (()) ?_ ?_ ?_
   ·first | exact .refl _ | exact List.nil_sublist _ | exact List.sublist_cons_of_sublist _ (.refl _) | exact ((List.Sublist.refl _).cons _).cons _ | (simp [*]; done) | skip
   ·first | trivial | assumption | omega | (simp; done) | skip
   simp +decide only [go_sem, resD, resV, c0]
   all_goals rfl
 ·have hw0 : IntKind.wrap .i64 ((xs.length : Int) - 1) = ((xs.length - 1 - 0 : Nat) : Int) := by rw [w64 (by omega)]; omega
  refine sr_ [0, 2, 3] [] [] fun κ ξ hκ hξ => ?_
  simp +decide only [go_sem, hw0]
  refine ⟨⟨47, rfl, by rw [tf220]; rfl, by omega⟩, ?_⟩
  refine hκ _ _ ?_
  refine bl ?_
  refine lp (α := Nat) (fun k => mk [(0, .arr bx 1 xs.length c), (2, .int .i64 k), (3, .int .i64 ((xs.length - 1 - k : Nat) : Int))]) (fun k => [(bx, .arr 1 ((rv xs k).map irow) c)]) (fun k => k ≤ xs.length - 1) (fun k => xs.length - 1 - k) 0 ⟨by omega, EnvLe.of_eq rfl, by rw [rv_zero]; exact .refl _⟩ ?_
  intro k hk
  have hrl := rv_len xs k
  refine sq ?_
  refine sr_ [0, 2, 3, 9] [] [] fun κ ξ hκ hξ => ?_
  simp +decide only [go_sem]
  refine hκ _ _ ?_
  refine cd_ (fun c1 => ?_) (fun c1 => ?_)
  ·simp only [go_sem] at c1
   have hk1 : k < xs.length - 1 - k := by omega
   have hkl : (k : Int) < (xs.length : Int) := by omega
   have hjl : ((xs.length - 1 - k : Nat) : Int) < (xs.length : Int) := by omega
   have hkn : k < xs.length := by omega
   have hjn : xs.length - 1 - k < xs.length := by omega
   have hd1 := irow_drop (xs := rv xs k) (k := k) (by rw [hrl]; omega)
   have hd2 := irow_drop (xs := rv xs k) (k := xs.length - 1 - k) (by rw [hrl]; omega)
   have hs1 := irow_set (xs := rv xs k) (k := k) (iat (rv xs k) (xs.length - 1 - k)) (by rw [hrl]; omega)
   have hs2 := irow_set (xs := (rv xs k).set k (iat (rv xs k) (xs.length - 1 - k))) (k := xs.length - 1 - k) (iat (rv xs k) k) (by rw [List.length_set, hrl]; omega)
   have hsw := rv_swap hk1
   refine sk ?_
   refine sq ?_
   refine bl ?_
   refine rrd_ [0, 2, 3] [] [] [] fun κ ξ hκ hξ => ?_
   simp +decide only [go_sem, c1, hd1, hd2, Nat.mul_one, Nat.div_one, Nat.mod_one, hs1, hs2, hsw, hrl, List.length_cons, Nat.le_add_left, List.headD_cons, List.length_set, hkl, hjl, hkn, hjn]
   repeat with_reducible refine an_ ?_
   refine hκ _ _ ?_
   refine rr_ [0, 2, 3] [] [] fun κ ξ hκ hξ => ?_
   simp +decide only [go_sem]
   refine hκ _ _ ?_
   refine ⟨k + 1, ⟨by omega, by omega⟩, EnvLe.of_eq ?_, ?_⟩
   ·rw [show IntKind.wrap .i64 (((xs.length - 1 - k : Nat) : Int) - 1) = ((xs.length - 1 - (k + 1) : Nat) : Int) by rw [w64 (by omega)]; omega, w64 (by omega)]; rfl
   ·exact .refl _
  ·simp only [go_sem] at c1
   refine ex ?_
   rw [← rv_done (xs := xs) (k := k) (by omega)]
   refine retRn (()) ?_ ?_ ?_
   ·first | exact .refl _ | exact List.nil_sublist _ | exact List.sublist_cons_of_sublist _ (.refl _) | exact ((List.Sublist.refl _).cons _).cons _ | (simp [*]; done) | skip
   ·first | trivial | assumption | omega | (simp; done) | skip
   simp +decide only [go_sem, resD, resV, hw0, c1]
   all_goals rfl
theorem rev1_w (v : Int) (t : Tok) : PCall Tryz.prog (.func 174) [.sl 1 [irow v] t] (.tup []) := by
 refine PCall.le ?_
 refine fn_ Tryz.func174 (by rfl) (by rfl) (rs := []) (by rfl) (by simp [Tryz.f174]) ?_
 refine sr_ [0, 2, 3] [] [] fun κ ξ hκ hξ => ?_
 simp +decide only [go_sem]
 refine hκ _ _ ?_
 refine bl ?_
 refine lp (α := Nat) (fun _ => mk [(0, .sl 1 [irow v] t), (2, .int .i64 0), (3, .int .i64 0)]) (fun _ => []) (fun _ => True) (fun _ => 0) 0 ⟨trivial, EnvLe.of_eq (by rw [show IntKind.wrap .i64 (((1 : Nat) : Int) - 1) = 0 by decide]; rfl), .refl _⟩ ?_
 intro k _
 refine sq ?_
 refine sr_ [0, 2, 3, 9] [] [] fun κ ξ hκ hξ => ?_
 simp +decide only [go_sem]
 refine hκ _ _ ?_
 refine cd_ (fun c0 => ?_) (fun c0 => ?_)
 ·exfalso; revert c0; simp
 ·skip
  refine ex ?_
  refine retEn ?_
  simp +decide only [go_sem, resD, resV, c0]
  all_goals rfl
theorem path_w (l : List Nd) (t : Tok) (i : Nat) (hT : Tree l) (hi : i < l.length) : PCall Tryz.prog (.func 126) [.sl 5 (l.map nrow) t, .int .i64 i] (.sl 1 ((pathL l i).map irow) .no) := by
 have hil : (i : Int) < (l.length : Int) := by omega
 have hl4 := hT.len.2
 have hcl0 := chn_len l i
 have hd30 := hT.deep i hi
 refine PCall.le ?_
 refine fn_ Tryz.func126 (by rfl) (by rfl) (rs := [.tmp 4]) (by rfl) (by simp [Tryz.f126]) ?_
 refine sr_ [0, 1] [] [] fun κ ξ hκ hξ => ?_
 simp +decide only [go_sem]
 refine hκ _ _ ?_
 refine sc ?_
 refine sr_ [0, 1, 5] [] [] fun κ ξ hκ hξ => ?_
 simp +decide only [go_sem, hil]
 repeat with_reducible refine an_ ?_
 refine hκ _ _ ?_
 refine sq ?_
 refine lb ?_
 refine sq ?_
 refine bl ?_
 refine lp (α := Nat × Option (Nat × Nat)) (fun y => mk [(0, .sl 5 (l.map nrow) t), (1, .int .i64 (cur l i y.1 : Nat)), (5, ptD (((upL l i).take (y.1 + 1)).map irow) (y.1 + 1) y.2)]) (fun y => ptS (((upL l i).take (y.1 + 1)).map irow) y.2) (fun y => y.1 ≤ (chn l i).length ∧ (y.2 = none → y.1 = 0) ∧ ∀ b c, y.2 = some (b, c) → y.1 + 1 ≤ c) (fun y => (chn l i).length - y.1) (0, none) ⟨⟨by omega, fun _ => rfl, fun b c h => by cases h⟩, EnvLe.of_eq rfl, .refl _⟩ ?_
 rintro ⟨j, o⟩ ⟨hj, hjn, ho⟩
 simp only at hj hjn ho
 obtain ⟨hcp, hcl⟩ := cur_pix (l := l) (i := i) hj
 have hup := up_pix hT (show cur l i j < l.length by omega)
 have hpz := par_zero hT (show cur l i j < l.length by omega)
 have hcll : (cur l i j : Int) < (l.length : Int) := by omega
 have hutl := upL_tl hj
 refine sq ?_
 rcases o with _ | ⟨bo, co⟩
 ·skip
  refine sr_ [0, 1, 5, 18] [] [] fun κ ξ hκ hξ => ?_
  simp +decide only [go_sem, hcll, ptD, ptS]
  repeat with_reducible refine an_ ?_
  refine hκ _ _ ?_
  refine cd_ (fun c0 => ?_) (fun c0 => ?_)
  ·simp only [go_sem] at c0
   obtain ⟨x, hx, hux⟩ : ∃ x : Nat, (chn l i)[j]? = some x ∧ upc (chn l i) j = (x : Int) := upc_pos (by rw [← hcp]; by_cases h : 0 ≤ pix l (cur l i j); exact h; exact absurd (hpz.2 h) c0)
   have hpx := pix_lt l (cur l i j)
   have hjl := (List.getElem?_eq_some_iff.1 hx).1
   refine sk ?_
   refine bl ?_
   refine sq ?_
   refine sr_ [0, 1, 5, 19, 20] [] [] fun κ ξ hκ hξ => ?_
   simp +decide only [go_sem, c0]
   refine hκ _ _ ?_
   refine bl ?_
   refine lp (α := Nat) (fun k => mk [(0, .sl 5 (l.map nrow) t), (1, .int .i64 (cur l i j : Nat)), (5, ptD (((upL l i).take (j + 1)).map irow) (j + 1) none), (19, .int .i64 (cur l i j : Nat)), (20, .int .i64 k)]) (fun _ => ptS (((upL l i).take (j + 1)).map irow) none) (fun k => k ≤ cur l i j ∧ ∀ q, q < k → (nat l q).id ≠ (nat l (cur l i j)).par) (fun k => cur l i j - k) 0 ⟨⟨by omega, fun q h => by omega⟩, EnvLe.of_eq rfl, .refl _⟩ ?_
   rintro k ⟨hk, hno⟩
   refine sr_ [0, 1, 5, 19, 20, 21] [] [] fun κ ξ hκ hξ => ?_
   simp +decide only [go_sem, ptD, ptS]
   refine hκ _ _ ?_
   refine sq ?_
   refine cd_ (fun c1 => ?_) (fun c1 => ?_)
   ·simp only [go_sem] at c1
    have hkl : (k : Int) < (l.length : Int) := by omega
    refine sk ?_
    refine sq ?_
    refine bl ?_
    refine sr_ [0, 1, 5, 6, 19, 20] [] [] fun κ ξ hκ hξ => ?_
    simp +decide only [go_sem, c1]
    refine hκ _ _ ?_
    refine srd_ [0, 1, 5, 6, 19, 20, 33] [] [] [] fun κ ξ hκ hξ => ?_
    simp +decide only [go_sem, hcll, hkl]
    repeat with_reducible refine an_ ?_
    refine hκ _ _ ?_
    refine cd_ (fun c2 => ?_) (fun c2 => ?_)
    ·try simp only [go_sem] at c2
     refine sr_ [0, 1, 5] [41] [] fun κ ξ hκ hξ => ?_
     simp +decide only [go_sem, hkl, c2]
     repeat with_reducible refine an_ ?_
     first
     | refine .inl (nappM_fullT (rows := ((upL l i).take (j + 1)).map irow) (n := j + 1) (by rw [List.length_map, hutl]) rfl rfl (by simp +decide only [go_sem, Option.isSome_some]) tf220 tf221 tf36 (by refine ⟨⟨rfl, by decide, by decide⟩, irow_all _, by simp [D.isCell], by simp, ?_⟩; simp [capB] <;> omega) ?_); intro b41 c41 hb41 hc41
     | refine .inl (nappM_growN (rows := ((upL l i).take (j + 1)).map irow) (n := j + 1) (by rw [List.length_map, hutl]) hco rfl rfl (by simp +decide only [go_sem, Option.isSome_some]) tf220 tf221 tf36 (by refine ⟨⟨rfl, by decide, by decide⟩, by simp [D.isCell], by simp, ?_⟩; simp [capB] <;> omega) ?_); intro b41 c41 hb41 hc41
     simp +decide only [go_sem, hb41]
     refine hκ _ _ ?_
     refine ex ?_
     have hkx : k = x := by
      have := idx_is (l := l) (x := (nat l (cur l i j)).par) (i := k) (by omega) (by simpa using c2) hno
      omega
     subst hkx
     refine ⟨(j + 1, some (b41, c41)), ⟨⟨by omega, (by intro h; cases h), (by intro b c h; cases h; simp only [List.length_cons, List.length_nil] at hc41; exact hc41)⟩, by simp only; omega⟩, EnvLe.of_eq ?_, ?_⟩
     ·rw [cur_succ hx]; rfl
     ·simp only [ptS, upL_take hx, List.map_append, c2]; exact .refl _
    ·try simp only [go_sem] at c2
     refine sk ?_
     refine rr_ [0, 1, 5, 19, 20] [] [] fun κ ξ hκ hξ => ?_
     simp +decide only [go_sem, c2]
     refine hκ _ _ ?_
     refine ⟨k + 1, ⟨⟨by omega, fun q hq => ?_⟩, by omega⟩, EnvLe.of_eq (by rw [w64 (by omega)]; rfl), .refl _⟩
     rcases Nat.lt_succ_iff_lt_or_eq.1 hq with h | rfl
     ·exact hno q h
     ·exact (by simpa using c2)
   ·exfalso
    simp only [go_sem] at c1
    rcases idx_cases l (nat l (cur l i j)).par with ⟨y, hy, h1, h2, h3⟩ | ⟨_, h3⟩
    ·exact hno y (by omega) h1
    ·omega
  ·have hje : j = (chn l i).length := by
    have := upc_neg (c := chn l i) (j := j) (by rw [← hcp]; exact hpz.1 (by simpa using c0))
    omega
   have hue : (upL l i).take (j + 1) = upL l i := List.take_of_length_le (by rw [upL_len]; omega)
   have hule : (upL l i).length = j + 1 := by rw [upL_len]; omega
   obtain rfl := hjn rfl
   have hch : chn l i = [] := List.eq_nil_of_length_eq_zero hje.symm
   have hu1 : upL l i = [(nat l i).id] := by unfold upL; rw [hch]; rfl
   refine ex ?_
   refine sr_ [5] [] [] fun κ ξ hκ hξ => ?_
   simp +decide only [go_sem, c0, hu1, List.map_cons, List.map_nil]
   first
   | refine callF (rev1_w _ _) ?_
   | refine callR (by have h := rev_w (upL l i) bo co (by omega); rw [hule] at h; exact h) fun _ _ => ?_
   simp +decide only [go_sem]
   refine hκ _ _ ?_
   refine sr_ [4] [] [] fun κ ξ hκ hξ => ?_
   simp +decide only [go_sem, List.map_cons, List.map_nil]
   refine hκ _ _ ?_
   refine rt ?_
   refine retL ?_
   simp +decide only [go_sem, resD, resV, hil, hcll, ptD, ptS, c0, hue, hu1, List.map_cons, List.map_nil]
   have hp : pathL l i = [(nat l i).id] := by unfold pathL; rw [hu1]; rfl
   rw [hp]
   exact DLe.tok _ _ _
 ·have hco := ho bo co rfl
  refine sr_ [0, 1, 5, 18] [] [] fun κ ξ hκ hξ => ?_
  simp +decide only [go_sem, hcll, ptD, ptS]
  repeat with_reducible refine an_ ?_
  refine hκ _ _ ?_
  refine cd_ (fun c3 => ?_) (fun c3 => ?_)
  ·simp only [go_sem] at c3
   obtain ⟨x, hx, hux⟩ : ∃ x : Nat, (chn l i)[j]? = some x ∧ upc (chn l i) j = (x : Int) := upc_pos (by rw [← hcp]; by_cases h : 0 ≤ pix l (cur l i j); exact h; exact absurd (hpz.2 h) c3)
   have hpx := pix_lt l (cur l i j)
   have hjl := (List.getElem?_eq_some_iff.1 hx).1
   refine sk ?_
   refine bl ?_
   refine sq ?_
   refine sr_ [0, 1, 5, 19, 20] [] [] fun κ ξ hκ hξ => ?_
   simp +decide only [go_sem, c3]
   refine hκ _ _ ?_
   refine bl ?_
   refine lp (α := Nat) (fun k => mk [(0, .sl 5 (l.map nrow) t), (1, .int .i64 (cur l i j : Nat)), (5, ptD (((upL l i).take (j + 1)).map irow) (j + 1) (some (bo, co))), (19, .int .i64 (cur l i j : Nat)), (20, .int .i64 k)]) (fun _ => ptS (((upL l i).take (j + 1)).map irow) (some (bo, co))) (fun k => k ≤ cur l i j ∧ ∀ q, q < k → (nat l q).id ≠ (nat l (cur l i j)).par) (fun k => cur l i j - k) 0 ⟨⟨by omega, fun q h => by omega⟩, EnvLe.of_eq rfl, .refl _⟩ ?_
   rintro k ⟨hk, hno⟩
   refine sr_ [0, 1, 5, 19, 20, 21] [] [] fun κ ξ hκ hξ => ?_
   simp +decide only [go_sem, ptD, ptS]
   refine hκ _ _ ?_
   refine sq ?_
   refine cd_ (fun c4 => ?_) (fun c4 => ?_)
   ·simp only [go_sem] at c4
    have hkl : (k : Int) < (l.length : Int) := by omega
    refine sk ?_
    refine sq ?_
    refine bl ?_
    refine sr_ [0, 1, 5, 6, 19, 20] [] [] fun κ ξ hκ hξ => ?_
    simp +decide only [go_sem, c4]
    refine hκ _ _ ?_
    refine srd_ [0, 1, 5, 6, 19, 20, 33] [] [] [] fun κ ξ hκ hξ => ?_
    simp +decide only [go_sem, hcll, hkl]
    repeat with_reducible refine an_ ?_
    refine hκ _ _ ?_
    refine cd_ (fun c5 => ?_) (fun c5 => ?_)
    ·try simp only [go_sem] at c5
     refine sr_ [0, 1, 5] [41] [] fun κ ξ hκ hξ => ?_
     simp +decide only [go_sem, hkl, c5]
     repeat with_reducible refine an_ ?_
     first
     | refine .inl (nappM_fullT (rows := ((upL l i).take (j + 1)).map irow) (n := j + 1) (by rw [List.length_map, hutl]) rfl rfl (by simp +decide only [go_sem, Option.isSome_some]) tf220 tf221 tf36 (by refine ⟨⟨rfl, by decide, by decide⟩, irow_all _, by simp [D.isCell], by simp, ?_⟩; simp [capB] <;> omega) ?_); intro b41 c41 hb41 hc41
     | refine .inl (nappM_growN (rows := ((upL l i).take (j + 1)).map irow) (n := j + 1) (by rw [List.length_map, hutl]) hco rfl rfl (by simp +decide only [go_sem, Option.isSome_some]) tf220 tf221 tf36 (by refine ⟨⟨rfl, by decide, by decide⟩, by simp [D.isCell], by simp, ?_⟩; simp [capB] <;> omega) ?_); intro b41 c41 hb41 hc41
     simp +decide only [go_sem, hb41]
     refine hκ _ _ ?_
     refine ex ?_
     have hkx : k = x := by
      have := idx_is (l := l) (x := (nat l (cur l i j)).par) (i := k) (by omega) (by simpa using c5) hno
      omega
     subst hkx
     refine ⟨(j + 1, some (b41, c41)), ⟨⟨by omega, (by intro h; cases h), (by intro b c h; cases h; simp only [List.length_cons, List.length_nil] at hc41; exact hc41)⟩, by simp only; omega⟩, EnvLe.of_eq ?_, ?_⟩
     ·rw [cur_succ hx]; rfl
     ·simp only [ptS, upL_take hx, List.map_append, c5]; exact .refl _
    ·try simp only [go_sem] at c5
     refine sk ?_
     refine rr_ [0, 1, 5, 19, 20] [] [] fun κ ξ hκ hξ => ?_
     simp +decide only [go_sem, c5]
     refine hκ _ _ ?_
     refine ⟨k + 1, ⟨⟨by omega, fun q hq => ?_⟩, by omega⟩, EnvLe.of_eq (by rw [w64 (by omega)]; rfl), .refl _⟩
     rcases Nat.lt_succ_iff_lt_or_eq.1 hq with h | rfl
     ·exact hno q h
     ·exact (by simpa using c5)
   ·exfalso
    simp only [go_sem] at c4
    rcases idx_cases l (nat l (cur l i j)).par with ⟨y, hy, h1, h2, h3⟩ | ⟨_, h3⟩
    ·exact hno y (by omega) h1
    ·omega
  ·have hje : j = (chn l i).length := by
    have := upc_neg (c := chn l i) (j := j) (by rw [← hcp]; exact hpz.1 (by simpa using c3))
    omega
   have hue : (upL l i).take (j + 1) = upL l i := List.take_of_length_le (by rw [upL_len]; omega)
   have hule : (upL l i).length = j + 1 := by rw [upL_len]; omega
   refine ex ?_
   refine sr_ [5] [] [] fun κ ξ hκ hξ => ?_
   simp +decide only [go_sem, c3, hue]
   first
   | refine callF (rev1_w _ _) ?_
   | refine callR (by have h := rev_w (upL l i) bo co (by omega); rw [hule] at h; exact h) fun _ _ => ?_
   simp +decide only [go_sem]
   refine hκ _ _ ?_
   refine sr_ [4] [] [] fun κ ξ hκ hξ => ?_
   simp +decide only [go_sem]
   refine hκ _ _ ?_
   refine fza bo [4] [] (sz := 1) (rows := (upL l i).reverse.map irow) (cap := co) (by simp [Store.get]) ?_
   refine weak (mk [(4, .sl 1 ((pathL l i).map irow) .no)]) (EnvLe.of_l ⟨?_, trivial⟩) (List.nil_sublist _) ?_
   ·have e1 : j + 1 ≤ lim := by unfold lim; omega
    have e2 : List.take (j + 1) ((upL l i).reverse.map irow) = (upL l i).reverse.map irow := List.take_of_length_le (by rw [List.length_map, List.length_reverse, hule]; exact Nat.le_refl _)
    show (if bo = bo ∧ 1 = 1 ∧ j + 1 ≤ ((upL l i).reverse.map irow).length ∧ j + 1 ≤ co ∧ j + 1 ≤ lim then D.sl 1 (((upL l i).reverse.map irow).take (j + 1)) .no else .arr bo 1 (j + 1) co) = _
    rw [if_pos ⟨rfl, rfl, by rw [List.length_map, List.length_reverse, hule]; exact Nat.le_refl _, hco, e1⟩, e2]; rfl
   refine rt ?_
   refine retL ?_
   simp +decide only [go_sem, resD, resV, hil, hcll, ptD, ptS, c3, hue]
   exact DLe.refl _
theorem tpath_w (l : List Nd) (t : Tok) (x : Int) : PCall Tryz.prog (.func 80) [.sl 5 (l.map nrow) t, .int .i64 x] (.tup [if gerr l x = 0 then .sl 1 ((pathL l (idx l x).toNat).map irow) .no else .sl 0 [] .nil, .int .i64 (gerr l x)]) := by
 refine PCall.le ?_
 refine fn_ Tryz.func80 (by rfl) (by rfl) (rs := [.tmp 4, .tmp 5]) (by rfl) (by simp [Tryz.f80]) ?_
 refine sr_ [0, 1] [] [] fun κ ξ hκ hξ => ?_
 simp +decide only [go_sem]
 refine hκ _ _ ?_
 refine sr_ [0, 6, 7] [] [] fun κ ξ hκ hξ => ?_
 simp +decide only [go_sem]
 refine callF (get_w _ _ _) ?_
 simp +decide only [go_sem]
 refine hκ _ _ ?_
 refine sq ?_
 refine sr_ [0, 6, 7, 15] [] [] fun κ ξ hκ hξ => ?_
 simp +decide only [go_sem]
 refine hκ _ _ ?_
 refine cd_ (fun c0 => ?_) (fun c0 => ?_)
 ·simp only [go_sem] at c0
  refine sr_ [4, 5] [] [] fun κ ξ hκ hξ => ?_
  simp +decide only [go_sem, c0]
  refine hκ _ _ ?_
  refine rt ?_
  refine retE ?_
  simp +decide only [go_sem, resD, resV, c0]
  all_goals simp [c0]
 ·have hg : gerr l x = 0 := by simpa using c0
  obtain ⟨hv, hix⟩ : (treB l && idB x) = true ∧ 0 ≤ idx l x := by
   unfold gerr at hg
   by_cases h1 : (treB l && idB x) = true
   ·by_cases h2 : 0 ≤ idx l x
    ·exact ⟨h1, h2⟩
    ·simp [h1, h2] at hg
   ·simp [h1] at hg
  simp only [Bool.and_eq_true] at hv
  obtain ⟨hv1, hv2⟩ := hv
  have hT := treB_true.1 hv1
  obtain ⟨i, hi⟩ : ∃ i : Nat, idx l x = (i : Int) := ⟨(idx l x).toNat, by omega⟩
  have hil := idx_lt l x
  have hfi : fi l x = (i : Int) := by unfold fi; rw [if_pos hix, hi]
  refine sk ?_
  refine sr_ [4, 5] [] [] fun κ ξ hκ hξ => ?_
  simp +decide only [go_sem, hv1, hv2, and_self, if_true, hfi, hg]
  refine callF (path_w l t i hT (by omega)) ?_
  simp +decide only [go_sem, and_self, if_true]
  refine hκ _ _ ?_
  refine rt ?_
  refine retE ?_
  simp +decide only [go_sem, resD, resV, c0, hv1, hv2, and_self, if_true, hfi, hg]
  all_goals simp [hg, hi]
end
section
theorem napp_fullT {P : Program} {σ : Store} {ts : Array TypeId} {T U V : TypeId} {g : Bool} {sz by_ n : Nat} {z : List D} {rows new : List (List D)} {tk : Tok} {K : D → Store → Prop}
  (hn : rows.length = n) (hT : ts[0]? = some T) (hV : ts[1]? = some V) (hV' : (sle P V).isSome = true) (hs : sle P T = some (U, g, sz)) (hy : eby P T = some by_) (hz : zc P U = some z)
  (hside : (z.length = sz ∧ 0 < sz ∧ 0 < by_) ∧ new.all (·.all D.isCell) = true ∧ (n + new.length) * by_ ≤ capB)
  (h0 : new = [] → K (.sl sz rows .full) σ) (hK : ∀ b c, b ∉ σ.keys → K (.sl sz (rows ++ new) (.own b c)) ((b, .tail sz (n + new.length) c) :: σ)) :
  napp P σ ts (.sl sz rows .full) (.sl sz new tk) K := by
 subst hn
 obtain ⟨⟨hz1, hs0, hb0⟩, hc, hfit⟩ := hside
 unfold napp
 simp only [hT, Option.bind_some, hs, hy, rowsOf]
 exact ⟨⟨⟨z, hz, hz1⟩, ⟨V, hV, .inl hV'⟩, hs0, hb0, by simp, by simp, hc, hfit⟩, h0, fun _ b cap hb => hK b cap hb⟩
def wid (l : List Nd) (i j : Nat) : Int := if j ≤ (chn l i).length then (nat l (cur l i j)).id else 0
theorem wid_next {l : List Nd} (hT : Tree l) {i j : Nat} (hi : i < l.length) (hj : j ≤ (chn l i).length) : (nat l (cur l i j)).par = wid l i (j + 1) := by
 obtain ⟨hcp, hcl⟩ := cur_pix (l := l) (i := i) hj
 have hup := up_pix hT (show cur l i j < l.length by omega)
 have hpz := par_zero hT (show cur l i j < l.length by omega)
 unfold wid
 by_cases h : j + 1 ≤ (chn l i).length
 ·rw [if_pos h]
  have e : (chn l i)[j]? = some (chn l i)[j] := List.getElem?_eq_getElem (by omega)
  have hc : pix l (cur l i j) = ((chn l i)[j] : Nat) := by rw [hcp]; simp [upc, e]
  rw [cur_succ e]
  rcases idx_cases l (nat l (cur l i j)).par with ⟨y, hy, h1, _, h3⟩ | ⟨_, h3⟩
  ·have : y = (chn l i)[j] := by omega
   rw [← this, h1]
  ·omega
 ·rw [if_neg h]
  refine hpz.2 ?_
  rw [hcp]
  have : (chn l i)[j]? = none := List.getElem?_eq_none_iff.2 (by omega)
  simp [upc, this]
theorem upL_wid {l : List Nd} {i j : Nat} (hj : j ≤ (chn l i).length) : (((upL l i).take (j + 1)).reverse.map irow) = [.int .i64 (wid l i j)] :: ((upL l i).take j).reverse.map irow := by
 have e : (upL l i)[j]? = some (wid l i j) := by
  unfold upL wid cur
  rw [if_pos hj, List.getElem?_map, List.getD_eq_getElem?_getD]
  have : (i :: chn l i)[j]? = some ((i :: chn l i)[j]'(by simp; omega)) := List.getElem?_eq_getElem (by simp; omega)
  rw [this]; rfl
 rw [List.take_add_one, e]
 simp [irow]
attribute [local go_sem] List.length_map rowAt_n nrow rowAt_t trow rowAt_i irow
attribute [local go_sem] for_put for_put' for_look for_look'
theorem way_w (l : List Nd) (t : Tok) (i : Nat) (hT : Tree l) (hi : i < l.length) : PCall Tryz.prog (.func 25) [.sl 5 (l.map nrow) t, .int .i64 (nat l i).id] (.sl 1 ((pathL l i).map irow) .no) := by
 have hcl0 := chn_len l i
 have hd30 := hT.deep i hi
 have hl4 := hT.len.2
 refine PCall.le ?_
 refine fn_ Tryz.func25 (by rfl) (by rfl) (rs := [.tmp 4]) (by rfl) (by simp [Tryz.f25]) ?_
 refine sr_ [0, 1] [] [] fun κ ξ hκ hξ => ?_
 simp +decide only [go_sem]
 refine hκ _ _ ?_
 refine sr_ [0, 1, 5] [] [] fun κ ξ hκ hξ => ?_
 simp +decide only [go_sem]
 refine hκ _ _ ?_
 refine sq ?_
 refine bl ?_
 refine lp (α := Nat) (fun j => mk [(0, .sl 5 (l.map nrow) t), (1, .int .i64 (wid l i j)), (5, .sl 1 (((upL l i).take j).reverse.map irow) .no)]) (fun _ => []) (fun j => j ≤ (chn l i).length + 1) (fun j => (chn l i).length + 1 - j) 0 ⟨by omega, EnvLe.cons (DLe.refl _) (EnvLe.cons (DLe.refl _) (EnvLe.cons (DLe.nil _ _ _) (EnvLe.of_eq rfl))), .refl _⟩ ?_
 intro j hj
 refine sq ?_
 refine sr_ [0, 1, 5, 7] [] [] fun κ ξ hκ hξ => ?_
 simp +decide only [go_sem]
 refine hκ _ _ ?_
 refine cd_ (fun c0 => ?_) (fun c0 => ?_)
 ·simp only [go_sem] at c0
  have hjl : j ≤ (chn l i).length := by
   rcases Nat.lt_or_ge (chn l i).length j with h | h
   ·exact absurd (by unfold wid; rw [if_neg (by omega)]) c0
   ·exact h
  refine sk ?_
  refine bl ?_
  refine jn (α := Unit) (fun _ => mk [(0, .sl 5 (l.map nrow) t), (1, .int .i64 (wid l i j)), (5, .sl 1 (((upL l i).take (j + 1)).reverse.map irow) .no)]) (fun _ => []) (fun _ => True) ?_ ?_
  ·refine rg [0, 1, 5] [] [] (by kernel_rfl) ?_; intro κ ξ hκ hξ
   simp +decide only [go_sem, Nat.reduceAdd, cond_false, c0]
   repeat with_reducible refine And.intro (by first | assumption | omega | (simp; done) | (simp; omega) | (intro hg; simp +decide only [go_sem, hg]; done) | (intro hg; simp +decide only [go_sem, hg]; omega)) ?_
   refine napp_fullT (rows := [[.int .i64 (wid l i j)]]) (n := 1) rfl rfl rfl (by simp +decide only [go_sem, Option.isSome_some]) tf220 tf221 tf36 (by refine ⟨⟨rfl, by decide, by decide⟩, ?_, ?_⟩; exact (by rw [List.all_map, List.all_eq_true]; intro t _; rfl); rw [List.length_map, List.length_reverse, List.length_take]; simp [capB]; omega) ?_ ?_
   ·intro h0
    simp +decide only [go_sem]
    repeat with_reducible refine And.intro (by first | assumption | omega | (simp; done) | (simp; omega) | (intro hg; simp +decide only [go_sem, hg]; done) | (intro hg; simp +decide only [go_sem, hg]; omega)) ?_
    refine hκ _ _ ?_
    exact ⟨(), trivial, EnvLe.cons (DLe.refl _) (EnvLe.cons (DLe.refl _) (EnvLe.cons (by rw [upL_wid hjl, h0]; exact DLe.tok _ _ _) (EnvLe.of_eq rfl))), List.nil_sublist _⟩
   ·intro b11 c11 hb11
    simp +decide only [go_sem]
    repeat with_reducible refine And.intro (by first | assumption | omega | (simp; done) | (simp; omega) | (intro hg; simp +decide only [go_sem, hg]; done) | (intro hg; simp +decide only [go_sem, hg]; omega)) ?_
    refine hκ _ _ ?_
    exact ⟨(), trivial, EnvLe.cons (DLe.refl _) (EnvLe.cons (DLe.refl _) (EnvLe.cons (by rw [upL_wid hjl]; exact DLe.tok _ _ _) (EnvLe.of_eq rfl))), List.nil_sublist _⟩
  ·rintro _ _
   have hcp := (cur_pix (l := l) (i := i) hjl).2
   have hcl3 : ((cur l i j : Nat) : Int) < (l.length : Int) := by omega
   have hwi : idx l (wid l i j) = ((cur l i j : Nat) : Int) := by unfold wid; rw [if_pos hjl]; exact idx_self hT (by omega)
   have hwn := wid_next hT hi hjl
   have h0c : (0 : Int) ≤ ((cur l i j : Nat) : Int) := by omega
   refine rr_ [0, 1, 5] [] [] fun κ ξ hκ hξ => ?_
   simp +decide only [go_sem]
   refine callF (ridx_w _ _ _) ?_
   simp +decide only [go_sem, hwi, hcl3, h0c, Int.toNat_natCast, hwn]
   refine hκ _ _ ?_
   exact ⟨j + 1, ⟨by omega, by omega⟩, EnvLe.of_eq rfl, .refl _⟩
 ·simp only [go_sem] at c0
  have hje : j = (chn l i).length + 1 := by
   rcases Nat.lt_or_ge (chn l i).length j with h | h
   ·omega
   ·have := (fm_id (hT.form (cur l i j) (by have := (cur_pix (l := l) (i := i) h).2; omega))).1
    unfold wid at c0
    rw [if_pos h] at c0
    omega
  have hue : (upL l i).take j = upL l i := List.take_of_length_le (by rw [upL_len]; omega)
  refine ex ?_
  refine sr_ [4] [] [] fun κ ξ hκ hξ => ?_
  simp +decide only [go_sem, c0, hue]
  refine hκ _ _ ?_
  refine rt ?_
  refine retL ?_
  simp +decide only [go_sem, resD, resV, c0, hue]
  exact DLe.refl _
end
end Go.Proofs.YtinhjbnljbmbcaaGreat

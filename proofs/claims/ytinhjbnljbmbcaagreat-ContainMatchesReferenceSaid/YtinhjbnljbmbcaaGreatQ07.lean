/- Joined. -/
import Derived.Test.YtinhjbnljbmbcaaGreatQ06
import Derived.Test.YtinhjbnljbmbcaaGreatQ05
namespace Go.Proofs.YtinhjbnljbmbcaaGreat
open Go Go.RowKit
set_option linter.unusedSimpArgs false
set_option linter.unusedVariables false
set_option maxHeartbeats 4000000
set_option maxRecDepth 100000
attribute [local go_sem] List.length_map rowAt_n nrow rowAt_t trow rowAt_i irow
attribute [local go_sem] rowAt_e rowAt_tm rowAt_dc rowAt_ru tmrow dcrow rurow
attribute [local go_sem] srt_get srt_look
theorem swi_w (n lo hi : Int) : PCall Tryz.prog (.func 107) [.int .i64 n, .int .i64 lo, .int .i64 hi] (.bool (decide (lo ≤ n ∧ n ≤ hi))) := by
 refine PCall.le ?_
 refine fn_ Tryz.func107 (by rfl) (by rfl) (rs := [.tmp 6]) (by rfl) (by simp [Tryz.f107]) ?_
 refine sr_ [0, 1, 2] [] [] fun κ ξ hκ hξ => ?_
 simp +decide only [go_sem]
 refine hκ _ _ ?_
 refine sr_ [6] [] [(3, 10)] fun κ ξ hκ hξ => ?_
 simp +decide only [go_sem]
 refine hκ _ _ ?_
 refine rt ?_
 refine retE ?_
 simp +decide only [go_sem, resD, resV]
 all_goals congr 1
 all_goals rw [Bool.eq_iff_iff]
 all_goals simp []
 all_goals omega
theorem rin_w (n lo hi : Int) : PCall Tryz.prog (.func 121) [.int .i64 n, .int .i64 lo, .int .i64 hi] (.bool (decide (lo ≤ n ∧ n ≤ hi))) := by
 refine PCall.le ?_
 refine fn_ Tryz.func121 (by rfl) (by rfl) (rs := [.tmp 6]) (by rfl) (by simp [Tryz.f121]) ?_
 refine sr_ [0, 1, 2] [] [] fun κ ξ hκ hξ => ?_
 simp +decide only [go_sem]
 refine hκ _ _ ?_
 refine sr_ [6] [] [(3, 10)] fun κ ξ hκ hξ => ?_
 simp +decide only [go_sem]
 refine hκ _ _ ?_
 refine rt ?_
 refine retE ?_
 simp +decide only [go_sem, resD, resV]
 all_goals congr 1
 all_goals rw [Bool.eq_iff_iff]
 all_goals simp []
 all_goals omega
theorem sorts_w  : RCall Tryz.prog (.func 166) [] [] (fun (b : Nat) => .mp b) (fun (b : Nat) => [(b, .map srtE)]) (fun (b : Nat) => True) := by
 refine fn_ Tryz.func166 (by rfl) (by rfl) (rs := [.tmp 0]) (by rfl) (by simp [Tryz.f166]) ?_
 refine sr_ [] [] [] fun κ ξ hκ hξ => ?_
 simp +decide only [go_sem]
 refine hκ _ _ ?_
 refine sr_ [0] [] [] fun κ ξ hκ hξ => ?_
 simp +decide only [go_sem]
 intro b1 hb1
 refine hκ _ _ ?_
 refine rt ?_
 refine retR (b1) ?_ ?_ ?_
 ·first | exact .refl _ | exact List.nil_sublist _ | exact List.sublist_cons_of_sublist _ (.refl _) | exact ((List.Sublist.refl _).cons _).cons _ | (simp [*]; done) | skip
 ·first | trivial | assumption | omega | (simp; done) | skip
 simp +decide only [go_sem, resD, resV, hb1]
 skip
theorem meas_s (e : Ex) (b d : Nat) (hd : d ≤ 31) (ih : ∀ k : Ex, exS k < exS e → ∀ d : Nat, d ≤ 31 → RCall Tryz.prog (.func 165) [.ag [.int .i64 k.op, .int .i64 k.num, .sl 3 (k.kids.map erow) .no], .mp b, .int .i64 d] [(b, .map srtE)] (fun _ : Unit => .tup [.int .i64 (bif measB k d then (exS k : Int) else 0), .bool (measB k d)]) (fun _ => [(b, .map srtE)]) (fun _ => True)) : RCall Tryz.prog (.func 165) [.ag [.int .i64 e.op, .int .i64 e.num, .sl 3 (e.kids.map erow) .no], .mp b, .int .i64 d] [(b, .map srtE)] (fun (_ : Unit) => (.tup [.int .i64 (bif measB e d then (exS e : Int) else 0), .bool (measB e d)])) (fun (_ : Unit) => [(b, .map srtE)]) (fun (_ : Unit) => True) := by
 refine RCall.ok fun hok => ?_
 simp only [okAll, D.ok, okRows, and_true, true_and, lim_eq, inR_i64', inR_i32', inR_u8', inR_u16', inR_u64'] at hok
 obtain ⟨⟨h1, h2, hl, hr⟩, _⟩ := hok; rw [List.length_map] at hl
 refine fn_ Tryz.func165 (by rfl) (by rfl) (rs := [.tmp 6, .tmp 7]) (by rfl) (by simp [Tryz.f165]) ?_
 refine sr_ [1, 2, 3] [3] [] fun κ ξ hκ hξ => ?_
 simp +decide only [go_sem]
 refine hκ _ _ ?_
 refine srz_ [(8, [])] [1, 2, 3, 8, 9] [] [] fun κ ξ hκ hξ => ?_
 simp +decide only [go_sem]
 intro b8 hb8
 refine hκ _ _ ?_
 refine sq ?_
 refine sr_ [1, 2, 3, 45] [] [(2, 24), (6, 28), (14, 36)] fun κ ξ hκ hξ => ?_
 simp +decide only [go_sem]
 refine vo_gc ?_
 simp +decide only [go_sem]
 refine gcF (swi_w _ _ _) ?_
 simp +decide only [go_sem]
 refine hκ _ _ ?_
 refine cd_ (fun c0 => ?_) (fun c0 => ?_)
 ·simp only [go_sem] at c0
  refine sr_ [6, 7] [] [] fun κ ξ hκ hξ => ?_
  simp +decide only [go_sem]
  refine hκ _ _ ?_
  refine rt ?_
  refine retR (()) ?_ ?_ ?_
  ·first | exact .refl _ | exact List.nil_sublist _ | exact List.sublist_cons_of_sublist _ (.refl _) | exact ((List.Sublist.refl _).cons _).cons _ | (simp [*]; done) | skip
  ·first | trivial | assumption | omega | (simp; done) | skip
  simp +decide only [go_sem, resD, resV, hb8, c0]
  have hf : measB e d = false := by
   rcases c0 with ((c0 | c0) | c0) | c0
   ·exact meas_op (by rw [srt_op, c0]; rfl)
   ·exact meas_deep (by omega)
   ·exact meas_op (by rw [srt_op, decide_eq_false c0]; simp)
   ·exact meas_op (by rw [srt_op, decide_eq_false c0]; simp)
  rw [hf]; rfl
 ·simp only [go_sem] at c0
  have hop : opB e.op e.num e.kids.length = true := by
   rw [srt_op, c0.1.1.1, decide_eq_true c0.1.2, decide_eq_true c0.2]; rfl
  have hdl : d ≤ 30 := by omega
  replace c0 := hdl
  refine sk ?_
  refine sr_ [1, 2, 3, 10] [] [] fun κ ξ hκ hξ => ?_
  simp +decide only [go_sem]
  refine hκ _ _ ?_
  refine sq ?_
  refine sr_ [1, 2, 10, 47, 48, 49] [] [] fun κ ξ hκ hξ => ?_
  simp +decide only [go_sem]
  refine hκ _ _ ?_
  refine bl ?_
  have hdw : IntKind.wrap .i64 ((d : Int) + 1) = ((d + 1 : Nat) : Int) := by rw [w64 (by omega)]; rfl
  refine lp (α := Nat) (fun i => mk [(1, .mp b), (2, .int .i64 d), (10, .int .i64 (1 + (exSs (e.kids.take i) : Nat))), (47, .sl 3 (e.kids.map erow) .no), (48, .int .i64 e.kids.length), (49, .int .i64 i)]) (fun _ => [(b, .map srtE)]) (fun i => (i ≤ e.kids.length ∧ 1 + exSs (e.kids.take i) ≤ 100) ∧ ∀ j, j < i → measB (eat e.kids j) (d + 1) = true) (fun i => e.kids.length - i) 0 ⟨⟨⟨by omega, by simp [exSs]⟩, by intro j hj; omega⟩, EnvLe.of_eq (by rw [List.take_zero, exSs]; rfl), List.Sublist.refl _⟩ ?_
  rintro i ⟨⟨hi, hn⟩, hj⟩
  refine sr_ [1, 2, 10, 47, 48, 49, 50] [] [] fun κ ξ hκ hξ => ?_
  simp +decide only [go_sem]
  refine hκ _ _ ?_
  refine sq ?_
  refine cd_ (fun c1 => ?_) (fun c1 => ?_)
  ·try simp only [go_sem] at c1
   refine sk ?_
   refine sq ?_
   refine bl ?_
   refine srz_ [(12, [])] [1, 2, 10, 12, 47, 48, 49] [] [] fun κ ξ hκ hξ => ?_
   simp +decide only [go_sem, c1]
   repeat with_reducible refine an_ ?_
   intro b12 hb12
   refine hκ _ _ ?_
   refine sr_ [1, 2, 10, 13, 14, 47, 48, 49] [] [] fun κ ξ hκ hξ => ?_
   simp +decide only [go_sem, hdw]
   refine callR (ih (eat e.kids i) (kid_lt (by omega)) (d + 1) (by omega)) fun _ _ => ?_
   simp +decide only [go_sem]
   refine hκ _ _ ?_
   refine sr_ [1, 2, 10, 14, 47, 48, 49] [] [] fun κ ξ hκ hξ => ?_
   simp +decide only [go_sem]
   refine hκ _ _ ?_
   refine sr_ [1, 2, 10, 47, 48, 49, 69] [] [(2, 66)] fun κ ξ hκ hξ => ?_
   simp +decide only [go_sem]
   refine hκ _ _ ?_
   refine cd_ (fun c2 => ?_) (fun c2 => ?_)
   ·try simp only [go_sem] at c2
    refine sr_ [6, 7] [] [] fun κ ξ hκ hξ => ?_
    simp +decide only [go_sem]
    refine hκ _ _ ?_
    refine rt ?_
    refine retR (()) ?_ ?_ ?_
    ·first | exact .refl _ | exact List.nil_sublist _ | exact List.sublist_cons_of_sublist _ (.refl _) | exact ((List.Sublist.refl _).cons _).cons _ | (simp [*]; done) | skip
    ·first | trivial | assumption | omega | (simp; done) | skip
    simp +decide only [go_sem, resD, resV, hb8, c0, hdw, c1, hb12, c2]
    have hf : measB e d = false := by
     cases hm : measB (eat e.kids i) (d + 1) with
     | false => exact meas_kid (by omega) hm
     | true =>
      rw [hm] at c2
      have hk := meas_true.1 hm
      have hs := exSs_take (l := e.kids) (i := i) (by omega)
      refine meas_sum (i := i + 1) ?_
      rcases c2 with c2 | c2
      ·cases c2
      ·rw [cond_true, w64 (by omega)] at c2
       omega
    rw [hf]; rfl
   ·try simp only [go_sem] at c2
    refine sk ?_
    refine rr_ [1, 2, 10, 47, 48, 49] [] [] fun κ ξ hκ hξ => ?_
    simp +decide only [go_sem, c2]
    refine hκ _ _ ?_
    have hs := exSs_take (l := e.kids) (i := i) (by omega)
    have hk := meas_true.1 c2.1
    refine ⟨i + 1, ⟨⟨⟨by omega, ?_⟩, ?_⟩, by omega⟩, EnvLe.of_eq ?_, .refl _⟩
    ·have h3 := c2.2
     rw [c2.1, cond_true, w64 (by omega)] at h3
     omega
    ·intro j h
     rcases Nat.lt_succ_iff_lt_or_eq.1 h with h | rfl
     ·exact hj j h
     ·exact c2.1
    ·rw [w64 (n := 1 + ((exSs (e.kids.take i) : Nat) : Int) + ((exS (eat e.kids i) : Nat) : Int)) (by omega), w64 (n := (i : Int) + 1) (by omega), hs, Int.natCast_add, Int.add_assoc]; rfl
  ·try simp only [go_sem] at c1
   refine ex ?_
   refine sr_ [6, 7] [] [] fun κ ξ hκ hξ => ?_
   simp +decide only [go_sem, c1]
   refine hκ _ _ ?_
   refine rt ?_
   refine retR (()) ?_ ?_ ?_
   ·first | exact .refl _ | exact List.nil_sublist _ | exact List.sublist_cons_of_sublist _ (.refl _) | exact ((List.Sublist.refl _).cons _).cons _ | (simp [*]; done) | skip
   ·first | trivial | assumption | omega | (simp; done) | skip
   simp +decide only [go_sem, resD, resV, hb8, c0, hdw, c1]
   have e1 : i = e.kids.length := by omega
   subst e1
   rw [List.take_length] at hn ⊢
   rw [meas_end hop hdl hj hn, cond_true, exS_eq, Int.natCast_add]; rfl
theorem meas_w (e : Ex) (b d : Nat) (hd : d ≤ 31) : RCall Tryz.prog (.func 165) [.ag [.int .i64 e.op, .int .i64 e.num, .sl 3 (e.kids.map erow) .no], .mp b, .int .i64 d] [(b, .map srtE)] (fun _ : Unit => (.tup [.int .i64 (bif measB e d then (exS e : Int) else 0), .bool (measB e d)])) (fun _ => [(b, .map srtE)]) (fun _ => True) := by
 suffices h : ∀ n (e : Ex), exS e ≤ n → ∀ d : Nat, d ≤ 31 → RCall Tryz.prog (.func 165) [.ag [.int .i64 e.op, .int .i64 e.num, .sl 3 (e.kids.map erow) .no], .mp b, .int .i64 d] [(b, .map srtE)] (fun _ : Unit => (.tup [.int .i64 (bif measB e d then (exS e : Int) else 0), .bool (measB e d)])) (fun _ => [(b, .map srtE)]) (fun _ => True) from h _ e (Nat.le_refl _) d hd
 intro n
 induction n with
 | zero => intro e he; have := exS_pos e; omega
 | succ n ih => exact fun e he d hd => meas_s e b d hd fun k hk d' hd' => ih k (by omega) d' hd'
theorem isex_w (e : Ex) : PCall Tryz.prog (.func 110) [.ag [.int .i64 e.op, .int .i64 e.num, .sl 3 (e.kids.map erow) .no]] (.bool (exB e)) := by
 refine PCall.le ?_
 refine fn_ Tryz.func110 (by rfl) (by rfl) (rs := [.tmp 2]) (by rfl) (by simp [Tryz.f110]) ?_
 refine sr_ [1] [1] [] fun κ ξ hκ hξ => ?_
 simp +decide only [go_sem]
 refine hκ _ _ ?_
 refine srd_ [4] [] [] [] fun κ ξ hκ hξ => ?_
 simp +decide only [go_sem]
 refine callR sorts_w fun b _ => ?_
 simp +decide only [go_sem]
 refine ⟨Ext_cons (by simp [Store.keys]), callR (meas_w e b 1 (by omega)) fun _ _ => ?_⟩
 simp +decide only [go_sem]
 refine hκ _ _ ?_
 refine sr_ [2] [] [] fun κ ξ hκ hξ => ?_
 simp +decide only [go_sem]
 refine hκ _ _ ?_
 refine rt ?_
 refine retE ?_
 simp +decide only [go_sem, resD, resV]
 all_goals rw [meas_one]
end Go.Proofs.YtinhjbnljbmbcaaGreat
/- The walks of rules. Printed by a tool of our own. -/
namespace Go.Proofs.YtinhjbnljbmbcaaGreat
open Go Go.RowKit
set_option linter.unusedSimpArgs false
set_option linter.unusedVariables false
set_option maxHeartbeats 4000000
set_option maxRecDepth 100000
attribute [local go_sem] List.length_map rowAt_n nrow rowAt_t trow rowAt_i irow
attribute [local go_sem] rowAt_e rowAt_tm rowAt_dc rowAt_ru tmrow dcrow rurow
attribute [local go_sem] srt_get srt_look
theorem istm_w (t : Tm) : PCall Tryz.prog (.func 113) [.ag (tmrow t)] (.bool (tmB t)) := by
 refine PCall.le ?_
 refine fn_ Tryz.func113 (by rfl) (by rfl) (rs := [.tmp 2]) (by rfl) (by simp [Tryz.f113]) ?_
 refine sr_ [1] [1] [] fun κ ξ hκ hξ => ?_
 simp +decide only [go_sem]
 refine hκ _ _ ?_
 refine sr_ [2] [] [(3, 6), (8, 11), (12, 15)] fun κ ξ hκ hξ => ?_
 simp +decide only [go_sem]
 refine callF (swi_w _ _ _) ?_
 simp +decide only [go_sem]
 refine vo_gc ?_
 simp +decide only [go_sem]
 refine gcF (swi_w _ _ _) ?_
 simp +decide only [go_sem]
 repeat with_reducible refine an_ ?_
 refine hκ _ _ ?_
 refine rt ?_
 refine retE ?_
 simp +decide only [go_sem, resD, resV]
 all_goals congr 1
 all_goals rw [Bool.eq_iff_iff]
 all_goals simp [tmB]
 all_goals omega
theorem rtm_w (t : Tm) : PCall Tryz.prog (.func 123) [.ag (tmrow t)] (.bool (tmB t)) := by
 refine PCall.le ?_
 refine fn_ Tryz.func123 (by rfl) (by rfl) (rs := [.tmp 2]) (by rfl) (by simp [Tryz.f123]) ?_
 refine sr_ [1] [1] [] fun κ ξ hκ hξ => ?_
 simp +decide only [go_sem]
 refine hκ _ _ ?_
 refine sr_ [2] [] [(3, 6), (8, 11), (12, 15)] fun κ ξ hκ hξ => ?_
 simp +decide only [go_sem]
 refine callF (rin_w _ _ _) ?_
 simp +decide only [go_sem]
 refine vo_gc ?_
 simp +decide only [go_sem]
 refine gcF (rin_w _ _ _) ?_
 simp +decide only [go_sem]
 repeat with_reducible refine an_ ?_
 refine hκ _ _ ?_
 refine rt ?_
 refine retE ?_
 simp +decide only [go_sem, resD, resV]
 all_goals congr 1
 all_goals rw [Bool.eq_iff_iff]
 all_goals simp [tmB]
 all_goals omega
theorem w2_w (t : Tm) : PCall Tryz.prog (.func 112) [.ag (tmrow t)] (.bool (!tmB t)) := by
 refine PCall.le ?_
 refine fn_ Tryz.func112 (by rfl) (by rfl) (rs := [.tmp 2]) (by rfl) (by simp [Tryz.f112]) ?_
 refine sr_ [1] [1] [] fun κ ξ hκ hξ => ?_
 simp +decide only [go_sem]
 refine hκ _ _ ?_
 refine sr_ [2] [] [] fun κ ξ hκ hξ => ?_
 simp +decide only [go_sem]
 refine callF (istm_w _) ?_
 simp +decide only [go_sem]
 refine hκ _ _ ?_
 refine rt ?_
 refine retE ?_
 simp +decide only [go_sem, resD, resV]
 
theorem w1_w (d : Dc) : PCall Tryz.prog (.func 109) [.ag (dcrow d)] (.bool (!dcB d)) := by
 refine PCall.le ?_
 refine fn_ Tryz.func109 (by rfl) (by rfl) (rs := [.tmp 2]) (by rfl) (by simp [Tryz.f109]) ?_
 refine sr_ [1] [1] [] fun κ ξ hκ hξ => ?_
 simp +decide only [go_sem]
 refine hκ _ _ ?_
 refine sr_ [2] [] [(4, 7)] fun κ ξ hκ hξ => ?_
 simp +decide only [go_sem]
 refine callF (swi_w _ _ _) ?_
 simp +decide only [go_sem]
 refine vo_gc ?_
 simp +decide only [go_sem]
 refine gcF (isex_w _) ?_
 simp +decide only [go_sem]
 refine hκ _ _ ?_
 refine rt ?_
 refine retE ?_
 simp +decide only [go_sem, resD, resV]
 all_goals congr 1
 all_goals unfold dcB
 all_goals cases exB d.val <;> simp
 all_goals (rw [Bool.eq_iff_iff]; simp; omega)
theorem iftm_w (l : List Tm) (t : Tok) : PCall Tryz.prog (.func 167) [.sl 2 (l.map tmrow) t, .fn (.func 112) [] []] (.int .i64 (fixI (fun x => !tmB x) l)) := by
 refine PCall.ok fun hok => ?_
 simp only [okAll, D.ok, okRows, and_true, true_and, lim_eq, inR_i64', inR_i32', inR_u8', inR_u16', inR_u64'] at hok
 obtain ⟨hl, hr⟩ := hok; rw [List.length_map] at hl
 refine PCall.le ?_
 refine fn_ Tryz.func167 (by rfl) (by rfl) (rs := [.tmp 4]) (by rfl) (by simp [Tryz.f167]) ?_
 refine sr_ [0, 1] [] [] fun κ ξ hκ hξ => ?_
 simp +decide only [go_sem]
 refine hκ _ _ ?_
 refine sq ?_
 refine sr_ [0, 1, 7, 8] [] [] fun κ ξ hκ hξ => ?_
 simp +decide only [go_sem]
 refine hκ _ _ ?_
 refine bl ?_
 refine lp (α := Nat) (fun i => mk [(0, .sl 2 (l.map tmrow) t), (1, .fn (.func 112) [] []), (7, .int .i64 l.length), (8, .int .i64 i)]) (fun _ => []) (fun i => i ≤ l.length ∧ ∀ j, j < i → tmB (tmat l j) = true) (fun i => l.length - i) 0 ⟨⟨by omega, by intro j hj; omega⟩, EnvLe.of_eq rfl, .refl _⟩ ?_
 rintro i ⟨hi, hj⟩
 refine sr_ [0, 1, 7, 8, 9] [] [] fun κ ξ hκ hξ => ?_
 simp +decide only [go_sem]
 refine hκ _ _ ?_
 refine sq ?_
 refine cd_ (fun c0 => ?_) (fun c0 => ?_)
 ·try simp only [go_sem] at c0
  refine sk ?_
  refine sq ?_
  refine bl ?_
  refine sr_ [0, 1, 5, 7, 8] [] [] fun κ ξ hκ hξ => ?_
  simp +decide only [go_sem, c0]
  refine hκ _ _ ?_
  refine sr_ [0, 1, 5, 7, 8, 16] [] [] fun κ ξ hκ hξ => ?_
  simp +decide only [go_sem, c0]
  repeat with_reducible refine an_ ?_
  refine callF (w2_w _) ?_
  simp +decide only [go_sem]
  refine hκ _ _ ?_
  refine cd_ (fun c1 => ?_) (fun c1 => ?_)
  ·try simp only [go_sem] at c1
   refine sr_ [4] [] [] fun κ ξ hκ hξ => ?_
   simp +decide only [go_sem, c1]
   refine hκ _ _ ?_
   refine rt ?_
   refine retE ?_
   simp +decide only [go_sem, resD, resV, c0, c1]
   congr 1
   rw [fixI_some (p := fun x => !tmB x) (d := tm0) (i := i) (by omega) (by simpa [tmat] using c1) fun j h => by simpa [tmat] using hj j h]
  ·try simp only [go_sem] at c1
   refine sk ?_
   refine rr_ [0, 1, 7, 8] [] [] fun κ ξ hκ hξ => ?_
   simp +decide only [go_sem, c1]
   refine hκ _ _ ?_
   refine ⟨i + 1, ⟨⟨by omega, ?_⟩, by omega⟩, EnvLe.of_eq (by rw [w64 (by omega)]; rfl), List.nil_sublist _⟩
   intro j h
   rcases Nat.lt_succ_iff_lt_or_eq.1 h with h | rfl
   ·exact hj j h
   ·first | assumption | simpa using c1
 ·try simp only [go_sem] at c0
  refine ex ?_
  refine sr_ [4] [] [] fun κ ξ hκ hξ => ?_
  simp +decide only [go_sem, c0]
  refine hκ _ _ ?_
  refine rt ?_
  refine retE ?_
  simp +decide only [go_sem, resD, resV, c0]
  congr 1
  rw [fixI_none (p := fun x => !tmB x) (d := tm0) fun j h => by simpa [tmat] using hj j (by omega)]
theorem cftm_w (l : List Tm) (t : Tok) : PCall Tryz.prog (.func 111) [.sl 2 (l.map tmrow) t, .fn (.func 112) [] []] (.bool (!l.all tmB)) := by
 refine PCall.le ?_
 refine fn_ Tryz.func111 (by rfl) (by rfl) (rs := [.tmp 4]) (by rfl) (by simp [Tryz.f111]) ?_
 refine sr_ [0, 1] [] [] fun κ ξ hκ hξ => ?_
 simp +decide only [go_sem]
 refine hκ _ _ ?_
 refine sr_ [4] [] [] fun κ ξ hκ hξ => ?_
 simp +decide only [go_sem]
 refine callF (iftm_w _ _) ?_
 simp +decide only [go_sem]
 refine hκ _ _ ?_
 refine rt ?_
 refine retE ?_
 simp +decide only [go_sem, resD, resV]
 all_goals congr 1
 all_goals exact fix_all _ tm0 _
theorem ifdc_w (l : List Dc) (t : Tok) : PCall Tryz.prog (.func 168) [.sl 4 (l.map dcrow) t, .fn (.func 109) [] []] (.int .i64 (fixI (fun x => !dcB x) l)) := by
 refine PCall.ok fun hok => ?_
 simp only [okAll, D.ok, okRows, and_true, true_and, lim_eq, inR_i64', inR_i32', inR_u8', inR_u16', inR_u64'] at hok
 obtain ⟨hl, hr⟩ := hok; rw [List.length_map] at hl
 refine PCall.le ?_
 refine fn_ Tryz.func168 (by rfl) (by rfl) (rs := [.tmp 4]) (by rfl) (by simp [Tryz.f168]) ?_
 refine sr_ [0, 1] [] [] fun κ ξ hκ hξ => ?_
 simp +decide only [go_sem]
 refine hκ _ _ ?_
 refine sq ?_
 refine sr_ [0, 1, 7, 8] [] [] fun κ ξ hκ hξ => ?_
 simp +decide only [go_sem]
 refine hκ _ _ ?_
 refine bl ?_
 refine lp (α := Nat) (fun i => mk [(0, .sl 4 (l.map dcrow) t), (1, .fn (.func 109) [] []), (7, .int .i64 l.length), (8, .int .i64 i)]) (fun _ => []) (fun i => i ≤ l.length ∧ ∀ j, j < i → dcB (dcat l j) = true) (fun i => l.length - i) 0 ⟨⟨by omega, by intro j hj; omega⟩, EnvLe.of_eq rfl, .refl _⟩ ?_
 rintro i ⟨hi, hj⟩
 refine sr_ [0, 1, 7, 8, 9] [] [] fun κ ξ hκ hξ => ?_
 simp +decide only [go_sem]
 refine hκ _ _ ?_
 refine sq ?_
 refine cd_ (fun c0 => ?_) (fun c0 => ?_)
 ·try simp only [go_sem] at c0
  refine sk ?_
  refine sq ?_
  refine bl ?_
  refine sr_ [0, 1, 5, 7, 8] [] [] fun κ ξ hκ hξ => ?_
  simp +decide only [go_sem, c0]
  refine hκ _ _ ?_
  refine sr_ [0, 1, 5, 7, 8, 16] [] [] fun κ ξ hκ hξ => ?_
  simp +decide only [go_sem, c0]
  repeat with_reducible refine an_ ?_
  refine callF (w1_w _) ?_
  simp +decide only [go_sem]
  refine hκ _ _ ?_
  refine cd_ (fun c1 => ?_) (fun c1 => ?_)
  ·try simp only [go_sem] at c1
   refine sr_ [4] [] [] fun κ ξ hκ hξ => ?_
   simp +decide only [go_sem, c1]
   refine hκ _ _ ?_
   refine rt ?_
   refine retE ?_
   simp +decide only [go_sem, resD, resV, c0, c1]
   congr 1
   rw [fixI_some (p := fun x => !dcB x) (d := dc0) (i := i) (by omega) (by simpa [dcat] using c1) fun j h => by simpa [dcat] using hj j h]
  ·try simp only [go_sem] at c1
   refine sk ?_
   refine rr_ [0, 1, 7, 8] [] [] fun κ ξ hκ hξ => ?_
   simp +decide only [go_sem, c1]
   refine hκ _ _ ?_
   refine ⟨i + 1, ⟨⟨by omega, ?_⟩, by omega⟩, EnvLe.of_eq (by rw [w64 (by omega)]; rfl), List.nil_sublist _⟩
   intro j h
   rcases Nat.lt_succ_iff_lt_or_eq.1 h with h | rfl
   ·exact hj j h
   ·first | assumption | simpa using c1
 ·try simp only [go_sem] at c0
  refine ex ?_
  refine sr_ [4] [] [] fun κ ξ hκ hξ => ?_
  simp +decide only [go_sem, c0]
  refine hκ _ _ ?_
  refine rt ?_
  refine retE ?_
  simp +decide only [go_sem, resD, resV, c0]
  congr 1
  rw [fixI_none (p := fun x => !dcB x) (d := dc0) fun j h => by simpa [dcat] using hj j (by omega)]
theorem cfdc_w (l : List Dc) (t : Tok) : PCall Tryz.prog (.func 114) [.sl 4 (l.map dcrow) t, .fn (.func 109) [] []] (.bool (!l.all dcB)) := by
 refine PCall.le ?_
 refine fn_ Tryz.func114 (by rfl) (by rfl) (rs := [.tmp 4]) (by rfl) (by simp [Tryz.f114]) ?_
 refine sr_ [0, 1] [] [] fun κ ξ hκ hξ => ?_
 simp +decide only [go_sem]
 refine hκ _ _ ?_
 refine sr_ [4] [] [] fun κ ξ hκ hξ => ?_
 simp +decide only [go_sem]
 refine callF (ifdc_w _ _) ?_
 simp +decide only [go_sem]
 refine hκ _ _ ?_
 refine rt ?_
 refine retE ?_
 simp +decide only [go_sem, resD, resV]
 all_goals congr 1
 all_goals exact fix_all _ dc0 _
theorem isru_w (r : Ru) : PCall Tryz.prog (.func 69) [.ag (rurow r)] (.bool (ruB r)) := by
 refine PCall.le ?_
 refine fn_ Tryz.func69 (by rfl) (by rfl) (rs := [.tmp 2]) (by rfl) (by simp [Tryz.f69]) ?_
 refine sr_ [1] [1] [] fun κ ξ hκ hξ => ?_
 simp +decide only [go_sem]
 refine hκ _ _ ?_
 refine sq ?_
 refine sr_ [1, 25] [] [(4, 8), (10, 14), (16, 20)] fun κ ξ hκ hξ => ?_
 simp +decide only [go_sem]
 refine callF (swi_w _ _ _) ?_
 simp +decide only [go_sem]
 refine vo_gc ?_
 simp +decide only [go_sem]
 refine gcF (sel_w _ _) ?_
 simp +decide only [go_sem]
 refine hκ _ _ ?_
 refine cd_ (fun c0 => ?_) (fun c0 => ?_)
 ·try simp only [go_sem] at c0
  refine sr_ [2] [] [] fun κ ξ hκ hξ => ?_
  simp +decide only [go_sem]
  refine hκ _ _ ?_
  refine rt ?_
  refine retE ?_
  simp +decide only [go_sem, resD, resV, c0]
  congr 1
  unfold ruB
  symm
  rw [← Bool.not_eq_true]
  simp only [Bool.and_eq_true, decide_eq_true_eq]
  rintro ⟨⟨⟨⟨⟨a, b⟩, c⟩, d⟩, _⟩, _⟩
  rw [b] at c0
  simp at c0
  omega
 ·try simp only [go_sem] at c0
  refine sk ?_
  refine sr_ [1, 3] [] [] fun κ ξ hκ hξ => ?_
  simp +decide only [go_sem, c0]
  refine hκ _ _ ?_
  refine sr_ [2] [] [(4, 30)] fun κ ξ hκ hξ => ?_
  simp +decide only [go_sem]
  refine callF (cftm_w _ _) ?_
  simp +decide only [go_sem]
  refine vo_gc ?_
  simp +decide only [go_sem]
  refine gcF (cfdc_w _ _) ?_
  simp +decide only [go_sem]
  refine hκ _ _ ?_
  refine rt ?_
  refine retE ?_
  simp +decide only [go_sem, resD, resV, c0]
  congr 1
  unfold ruB
  rw [decide_eq_true c0.1.1.1, c0.1.1.2, decide_eq_true (show r.whe.length ≤ 8 by omega), decide_eq_true (show r.decls.length ≤ 40 by omega)]
  simp
theorem w3_w (r : Ru) : PCall Tryz.prog (.func 68) [.ag (rurow r)] (.bool (!ruB r)) := by
 refine PCall.le ?_
 refine fn_ Tryz.func68 (by rfl) (by rfl) (rs := [.tmp 2]) (by rfl) (by simp [Tryz.f68]) ?_
 refine sr_ [1] [1] [] fun κ ξ hκ hξ => ?_
 simp +decide only [go_sem]
 refine hκ _ _ ?_
 refine sr_ [2] [] [] fun κ ξ hκ hξ => ?_
 simp +decide only [go_sem]
 refine callF (isru_w _) ?_
 simp +decide only [go_sem]
 refine hκ _ _ ?_
 refine rt ?_
 refine retE ?_
 simp +decide only [go_sem, resD, resV]
 
theorem ifru_w (l : List Ru) (t : Tok) : PCall Tryz.prog (.func 106) [.sl 4 (l.map rurow) t, .fn (.func 68) [] []] (.int .i64 (fixI (fun x => !ruB x) l)) := by
 refine PCall.ok fun hok => ?_
 simp only [okAll, D.ok, okRows, and_true, true_and, lim_eq, inR_i64', inR_i32', inR_u8', inR_u16', inR_u64'] at hok
 obtain ⟨hl, hr⟩ := hok; rw [List.length_map] at hl
 refine PCall.le ?_
 refine fn_ Tryz.func106 (by rfl) (by rfl) (rs := [.tmp 4]) (by rfl) (by simp [Tryz.f106]) ?_
 refine sr_ [0, 1] [] [] fun κ ξ hκ hξ => ?_
 simp +decide only [go_sem]
 refine hκ _ _ ?_
 refine sq ?_
 refine sr_ [0, 1, 7, 8] [] [] fun κ ξ hκ hξ => ?_
 simp +decide only [go_sem]
 refine hκ _ _ ?_
 refine bl ?_
 refine lp (α := Nat) (fun i => mk [(0, .sl 4 (l.map rurow) t), (1, .fn (.func 68) [] []), (7, .int .i64 l.length), (8, .int .i64 i)]) (fun _ => []) (fun i => i ≤ l.length ∧ ∀ j, j < i → ruB (ruat l j) = true) (fun i => l.length - i) 0 ⟨⟨by omega, by intro j hj; omega⟩, EnvLe.of_eq rfl, .refl _⟩ ?_
 rintro i ⟨hi, hj⟩
 refine sr_ [0, 1, 7, 8, 9] [] [] fun κ ξ hκ hξ => ?_
 simp +decide only [go_sem]
 refine hκ _ _ ?_
 refine sq ?_
 refine cd_ (fun c0 => ?_) (fun c0 => ?_)
 ·try simp only [go_sem] at c0
  refine sk ?_
  refine sq ?_
  refine bl ?_
  refine sr_ [0, 1, 5, 7, 8] [] [] fun κ ξ hκ hξ => ?_
  simp +decide only [go_sem, c0]
  refine hκ _ _ ?_
  refine sr_ [0, 1, 5, 7, 8, 16] [] [] fun κ ξ hκ hξ => ?_
  simp +decide only [go_sem, c0]
  repeat with_reducible refine an_ ?_
  refine callF (w3_w _) ?_
  simp +decide only [go_sem]
  refine hκ _ _ ?_
  refine cd_ (fun c1 => ?_) (fun c1 => ?_)
  ·try simp only [go_sem] at c1
   refine sr_ [4] [] [] fun κ ξ hκ hξ => ?_
   simp +decide only [go_sem, c1]
   refine hκ _ _ ?_
   refine rt ?_
   refine retE ?_
   simp +decide only [go_sem, resD, resV, c0, c1]
   congr 1
   rw [fixI_some (p := fun x => !ruB x) (d := ru0) (i := i) (by omega) (by simpa [ruat] using c1) fun j h => by simpa [ruat] using hj j h]
  ·try simp only [go_sem] at c1
   refine sk ?_
   refine rr_ [0, 1, 7, 8] [] [] fun κ ξ hκ hξ => ?_
   simp +decide only [go_sem, c1]
   refine hκ _ _ ?_
   refine ⟨i + 1, ⟨⟨by omega, ?_⟩, by omega⟩, EnvLe.of_eq (by rw [w64 (by omega)]; rfl), List.nil_sublist _⟩
   intro j h
   rcases Nat.lt_succ_iff_lt_or_eq.1 h with h | rfl
   ·exact hj j h
   ·first | assumption | simpa using c1
 ·try simp only [go_sem] at c0
  refine ex ?_
  refine sr_ [4] [] [] fun κ ξ hκ hξ => ?_
  simp +decide only [go_sem, c0]
  refine hκ _ _ ?_
  refine rt ?_
  refine retE ?_
  simp +decide only [go_sem, resD, resV, c0]
  congr 1
  rw [fixI_none (p := fun x => !ruB x) (d := ru0) fun j h => by simpa [ruat] using hj j (by omega)]
theorem cfru_w (l : List Ru) (t : Tok) : PCall Tryz.prog (.func 67) [.sl 4 (l.map rurow) t, .fn (.func 68) [] []] (.bool (!l.all ruB)) := by
 refine PCall.le ?_
 refine fn_ Tryz.func67 (by rfl) (by rfl) (rs := [.tmp 4]) (by rfl) (by simp [Tryz.f67]) ?_
 refine sr_ [0, 1] [] [] fun κ ξ hκ hξ => ?_
 simp +decide only [go_sem]
 refine hκ _ _ ?_
 refine sr_ [4] [] [] fun κ ξ hκ hξ => ?_
 simp +decide only [go_sem]
 refine callF (ifru_w _ _) ?_
 simp +decide only [go_sem]
 refine hκ _ _ ?_
 refine rt ?_
 refine retE ?_
 simp +decide only [go_sem, resD, resV]
 all_goals congr 1
 all_goals exact fix_all _ ru0 _
theorem shv_w (l : List Ru) (t : Tok) : PCall Tryz.prog (.func 34) [.sl 4 (l.map rurow) t] (.bool (rulesB l)) := by
 refine PCall.le ?_
 refine fn_ Tryz.func34 (by rfl) (by rfl) (rs := [.tmp 2]) (by rfl) (by simp [Tryz.f34]) ?_
 refine sr_ [0] [] [] fun κ ξ hκ hξ => ?_
 simp +decide only [go_sem]
 refine hκ _ _ ?_
 refine sr_ [2] [] [(3, 6)] fun κ ξ hκ hξ => ?_
 simp +decide only [go_sem]
 refine vo_gc ?_
 simp +decide only [go_sem]
 refine gcF (cfru_w _ _) ?_
 simp +decide only [go_sem]
 refine hκ _ _ ?_
 refine rt ?_
 refine retE ?_
 simp +decide only [go_sem, resD, resV]
 all_goals congr 1
 all_goals unfold rulesB
 all_goals (rw [Bool.eq_iff_iff]; simp; intro _; omega)
end Go.Proofs.YtinhjbnljbmbcaaGreat
/- The walks of the reference's expressions. Printed by a tool of our own. -/
namespace Go.Proofs.YtinhjbnljbmbcaaGreat
open Go Go.RowKit
set_option linter.unusedSimpArgs false
set_option linter.unusedVariables false
set_option maxHeartbeats 4000000
set_option maxRecDepth 100000
attribute [local go_sem] List.length_map rowAt_n nrow rowAt_t trow rowAt_i irow
attribute [local go_sem] rowAt_e rowAt_tm rowAt_dc rowAt_ru tmrow dcrow rurow
attribute [local go_sem] srt_get srt_look
theorem size_s (e : Ex) (lv mo : Nat) (hlv : lv ≤ 1000) (hmo : mo ≤ 1000) (ih : ∀ k : Ex, exS k < exS e → ∀ lv mo : Nat, lv ≤ 1000 → mo ≤ 1000 → PCall Tryz.prog (.func 154) [.ag [.int .i64 k.op, .int .i64 k.num, .sl 3 (k.kids.map erow) .no], .int .i64 lv, .int .i64 mo] (.int .i64 (szE k lv mo))) : PCall Tryz.prog (.func 154) [.ag [.int .i64 e.op, .int .i64 e.num, .sl 3 (e.kids.map erow) .no], .int .i64 lv, .int .i64 mo] (.int .i64 (szE e lv mo)) := by
 refine PCall.ok fun hok => ?_
 simp only [okAll, D.ok, okRows, and_true, true_and, lim_eq, inR_i64', inR_i32', inR_u8', inR_u16', inR_u64'] at hok
 obtain ⟨⟨h1, h2, hl, hr⟩, _⟩ := hok; rw [List.length_map] at hl
 refine PCall.le ?_
 refine fn_ Tryz.func154 (by rfl) (by rfl) (rs := [.tmp 6]) (by rfl) (by simp [Tryz.f154]) ?_
 refine sr_ [1, 2, 3] [3] [] fun κ ξ hκ hξ => ?_
 simp +decide only [go_sem]
 refine hκ _ _ ?_
 refine sq ?_
 refine sr_ [1, 2, 3, 14] [] [(2, 11)] fun κ ξ hκ hξ => ?_
 simp +decide only [go_sem]
 refine hκ _ _ ?_
 refine cd_ (fun c0 => ?_) (fun c0 => ?_)
 ·simp only [go_sem] at c0
  refine sr_ [6] [] [] fun κ ξ hκ hξ => ?_
  simp +decide only [go_sem]
  refine hκ _ _ ?_
  refine rt ?_
  refine retE ?_
  simp +decide only [go_sem, resD, resV, c0]
  congr 1
  rw [szE_z (by omega), w64 (by omega)]; rfl
 ·simp only [go_sem] at c0
  have hlw : IntKind.wrap .i64 ((lv : Int) - 1) = ((lv - 1 : Nat) : Int) := by rw [w64 (by omega)]; omega
  refine sk ?_
  refine sr_ [1, 2, 3, 7] [] [] fun κ ξ hκ hξ => ?_
  simp +decide only [go_sem, c0]
  refine hκ _ _ ?_
  refine sq ?_
  refine sr_ [1, 2, 3, 7, 8] [] [] fun κ ξ hκ hξ => ?_
  simp +decide only [go_sem]
  refine hκ _ _ ?_
  refine bl ?_
  refine lp (α := Nat × Nat) (fun y => mk [(1, .int .i64 lv), (2, .int .i64 mo), (3, .el [.int .i64 e.op, .int .i64 e.num, .sl 3 (e.kids.map erow) .no]), (7, .int .i64 y.2), (8, .int .i64 y.1)]) (fun _ => []) (fun y => y.1 ≤ e.kids.length ∧ szI e lv mo y.1 y.2) (fun y => e.kids.length - y.1) (0, 1) ⟨⟨by simp only; omega, szI_zero (by omega)⟩, EnvLe.of_eq rfl, .refl _⟩ ?_
  rintro ⟨i, n⟩ ⟨hi, hn⟩
  simp only at hi hn
  refine sq ?_
  refine sr_ [1, 2, 3, 7, 8, 26] [] [(5, 22)] fun κ ξ hκ hξ => ?_
  simp +decide only [go_sem]
  refine hκ _ _ ?_
  refine cd_ (fun c1 => ?_) (fun c1 => ?_)
  ·simp only [go_sem] at c1
   have hmw : IntKind.wrap .i64 ((mo : Int) - (n : Int)) = ((mo - n : Nat) : Int) := by rw [w64 (by omega)]; omega
   have hil : (i : Int) < e.kids.length := c1.1
   refine sk ?_
   refine sq ?_
   refine bl ?_
   refine rr_ [1, 2, 3, 7, 8] [] [] fun κ ξ hκ hξ => ?_
   simp +decide only [go_sem, hlw, c1, hmw]
   repeat with_reducible refine an_ ?_
   refine callF (ih (eat e.kids i) (kid_lt (by omega)) (lv - 1) (mo - n) (by omega) (by omega)) ?_
   simp +decide only [go_sem]
   refine hκ _ _ ?_
   refine rr_ [1, 2, 3, 7, 8] [] [] fun κ ξ hκ hξ => ?_
   simp +decide only [go_sem]
   refine hκ _ _ ?_
   have hn2 := szI_succ hn (by omega) (by omega)
   have hb := szE_le (eat e.kids i) (lv - 1) (mo - n)
   refine ⟨(i + 1, n + szE (eat e.kids i) (lv - 1) (mo - n)), ⟨⟨by simp only; omega, hn2⟩, by simp only; omega⟩, EnvLe.of_eq ?_, .refl _⟩
   rw [w64 (n := (i : Int) + 1) (by omega), w64 (by omega), Int.natCast_add]; rfl
  ·simp only [go_sem] at c1
   refine ex ?_
   refine sr_ [6] [] [] fun κ ξ hκ hξ => ?_
   simp +decide only [go_sem]
   refine hκ _ _ ?_
   refine rt ?_
   refine retE ?_
   simp +decide only [go_sem, resD, resV, c0, hlw, c1]
   congr 1
   rw [szI_end hn (by omega) (by omega)]
theorem size_w (e : Ex) (lv mo : Nat) (hlv : lv ≤ 1000) (hmo : mo ≤ 1000) : PCall Tryz.prog (.func 154) [.ag [.int .i64 e.op, .int .i64 e.num, .sl 3 (e.kids.map erow) .no], .int .i64 lv, .int .i64 mo] (.int .i64 (szE e lv mo)) := by
 suffices h : ∀ n (e : Ex), exS e ≤ n → ∀ lv mo : Nat, lv ≤ 1000 → mo ≤ 1000 → PCall Tryz.prog (.func 154) [.ag [.int .i64 e.op, .int .i64 e.num, .sl 3 (e.kids.map erow) .no], .int .i64 lv, .int .i64 mo] (.int .i64 (szE e lv mo)) from h _ e (Nat.le_refl _) lv mo hlv hmo
 intro n
 induction n with
 | zero => intro e he; have := exS_pos e; omega
 | succ n ih => exact fun e he lv mo h1 h2 => size_s e lv mo h1 h2 fun k hk a b ha hb => ih k (by omega) a b ha hb
theorem nodes_s (e : Ex) (ih : ∀ k : Ex, exS k < exS e → PCall Tryz.prog (.func 173) [.ag [.int .i64 k.op, .int .i64 k.num, .sl 3 (k.kids.map erow) .no]] (.bool (exN k))) : PCall Tryz.prog (.func 173) [.ag [.int .i64 e.op, .int .i64 e.num, .sl 3 (e.kids.map erow) .no]] (.bool (exN e)) := by
 refine PCall.ok fun hok => ?_
 simp only [okAll, D.ok, okRows, and_true, true_and, lim_eq, inR_i64', inR_i32', inR_u8', inR_u16', inR_u64'] at hok
 obtain ⟨h1, h2, hl, hr⟩ := hok; rw [List.length_map] at hl
 refine PCall.le ?_
 refine fn_ Tryz.func173 (by rfl) (by rfl) (rs := [.tmp 2]) (by rfl) (by simp [Tryz.f173]) ?_
 refine sr_ [1] [1] [] fun κ ξ hκ hξ => ?_
 simp +decide only [go_sem]
 refine hκ _ _ ?_
 refine sr_ [1, 3] [] [] fun κ ξ hκ hξ => ?_
 simp +decide only [go_sem]
 refine hκ _ _ ?_
 refine sr_ [1, 3, 4] [] [] fun κ ξ hκ hξ => ?_
 simp +decide only [go_sem]
 refine hκ _ _ ?_
 refine sr_ [1, 3, 4, 5] [] [] fun κ ξ hκ hξ => ?_
 simp +decide only [go_sem]
 refine hκ _ _ ?_
 refine jn (α := Int × Int × Int) (fun y => mk [(1, .el [.int .i64 e.op, .int .i64 e.num, .sl 3 (e.kids.map erow) .no]), (3, .int .i64 y.1), (4, .int .i64 y.2.1), (5, .int .i64 y.2.2)]) (fun _ => []) (fun y => ∀ n k, opB e.op n k = (decide ((k : Int) = y.1) && decide (y.2.1 ≤ n ∧ n ≤ y.2.2))) ?_ ?_
 ·refine sr_ [1, 3, 4, 5, 8] [] [] fun κ ξ hκ hξ => ?_
  simp +decide only [go_sem]
  refine hκ _ _ ?_
  refine bl ?_
  refine sr_ [1, 3, 4, 5, 8, 9] [] [] fun κ ξ hκ hξ => ?_
  simp +decide only [go_sem]
  refine hκ _ _ ?_
  refine cd_ (fun c0 => ?_) (fun c0 => ?_)
  ·try simp only [go_sem] at c0
   refine sr_ [1, 3, 4] [] [] fun κ ξ hκ hξ => ?_
   simp +decide only [go_sem, c0]
   refine hκ _ _ ?_
   refine rr_ [1, 3, 4, 5] [] [] fun κ ξ hκ hξ => ?_
   simp +decide only [go_sem]
   refine hκ _ _ ?_
   first
   | (exfalso; omega)
   | (refine ⟨(_, _, _), ?_, EnvLe.of_l ⟨by first | rfl | (simp only [*]; rfl), rfl, rfl, rfl, trivial⟩, .refl _⟩
      intro n k
      unfold opB
      (repeat (first | rw [if_pos (by omega)] | rw [if_neg (by omega)]))
      rw [Bool.eq_iff_iff]
      simp only [Bool.and_eq_true, decide_eq_true_eq]
      omega)
  ·try simp only [go_sem] at c0
   refine sq ?_
   refine sr_ [1, 3, 4, 5, 8, 11] [] [] fun κ ξ hκ hξ => ?_
   simp +decide only [go_sem, c0]
   refine hκ _ _ ?_
   refine cd_ (fun c1 => ?_) (fun c1 => ?_)
   ·try simp only [go_sem] at c1
    refine sk ?_
    refine cd_ (fun c2 => ?_) (fun c2 => ?_)
    ·simp only [go_sem] at c2
     refine sr_ [1, 3, 4] [] [] fun κ ξ hκ hξ => ?_
     simp +decide only [go_sem, c1]
     refine hκ _ _ ?_
     refine rr_ [1, 3, 4, 5] [] [] fun κ ξ hκ hξ => ?_
     simp +decide only [go_sem]
     refine hκ _ _ ?_
     first
     | (exfalso; omega)
     | (refine ⟨(_, _, _), ?_, EnvLe.of_l ⟨by first | rfl | (simp only [*]; rfl), rfl, rfl, rfl, trivial⟩, .refl _⟩
        intro n k
        unfold opB
        (repeat (first | rw [if_pos (by omega)] | rw [if_neg (by omega)]))
        rw [Bool.eq_iff_iff]
        simp only [Bool.and_eq_true, decide_eq_true_eq]
        omega)
    ·exfalso
     simp only [go_sem] at c2
     omega
   ·try simp only [go_sem] at c1
    refine rr_ [1, 3, 4, 5, 8, 11] [] [] fun κ ξ hκ hξ => ?_
    simp +decide only [go_sem, c1]
    refine hκ _ _ ?_
    refine cd_ (fun c3 => ?_) (fun c3 => ?_)
    ·try simp only [go_sem] at c3
     refine sr_ [1, 3, 4] [] [] fun κ ξ hκ hξ => ?_
     simp +decide only [go_sem, c3]
     refine hκ _ _ ?_
     refine rr_ [1, 3, 4, 5] [] [] fun κ ξ hκ hξ => ?_
     simp +decide only [go_sem]
     refine hκ _ _ ?_
     first
     | (exfalso; omega)
     | (refine ⟨(_, _, _), ?_, EnvLe.of_l ⟨by first | rfl | (simp only [*]; rfl), rfl, rfl, rfl, trivial⟩, .refl _⟩
        intro n k
        unfold opB
        (repeat (first | rw [if_pos (by omega)] | rw [if_neg (by omega)]))
        rw [Bool.eq_iff_iff]
        simp only [Bool.and_eq_true, decide_eq_true_eq]
        omega)
    ·try simp only [go_sem] at c3
     refine sr_ [1, 3, 4, 5, 8, 14] [] [] fun κ ξ hκ hξ => ?_
     simp +decide only [go_sem, c3]
     refine hκ _ _ ?_
     refine cd_ (fun c4 => ?_) (fun c4 => ?_)
     ·try simp only [go_sem] at c4
      refine sr_ [1, 3, 4] [] [] fun κ ξ hκ hξ => ?_
      simp +decide only [go_sem, c4]
      refine hκ _ _ ?_
      refine rr_ [1, 3, 4, 5] [] [] fun κ ξ hκ hξ => ?_
      simp +decide only [go_sem]
      refine hκ _ _ ?_
      first
      | (exfalso; omega)
      | (refine ⟨(_, _, _), ?_, EnvLe.of_l ⟨by first | rfl | (simp only [*]; rfl), rfl, rfl, rfl, trivial⟩, .refl _⟩
         intro n k
         unfold opB
         (repeat (first | rw [if_pos (by omega)] | rw [if_neg (by omega)]))
         rw [Bool.eq_iff_iff]
         simp only [Bool.and_eq_true, decide_eq_true_eq]
         omega)
     ·try simp only [go_sem] at c4
      refine sr_ [1, 4, 5, 8, 16] [] [] fun κ ξ hκ hξ => ?_
      simp +decide only [go_sem, c4]
      refine hκ _ _ ?_
      refine cd_ (fun c5 => ?_) (fun c5 => ?_)
      ·try simp only [go_sem] at c5
       refine sr_ [1, 3] [] [] fun κ ξ hκ hξ => ?_
       simp +decide only [go_sem, c5]
       refine hκ _ _ ?_
       refine sr_ [1, 3, 4] [] [] fun κ ξ hκ hξ => ?_
       simp +decide only [go_sem]
       refine hκ _ _ ?_
       refine rr_ [1, 3, 4, 5] [] [] fun κ ξ hκ hξ => ?_
       simp +decide only [go_sem]
       refine hκ _ _ ?_
       first
       | (exfalso; omega)
       | (refine ⟨(_, _, _), ?_, EnvLe.of_l ⟨by first | rfl | (simp only [*]; rfl), rfl, rfl, rfl, trivial⟩, .refl _⟩
          intro n k
          unfold opB
          (repeat (first | rw [if_pos (by omega)] | rw [if_neg (by omega)]))
          rw [Bool.eq_iff_iff]
          simp only [Bool.and_eq_true, decide_eq_true_eq]
          omega)
      ·try simp only [go_sem] at c5
       refine sr_ [1, 4, 5, 8, 18] [] [] fun κ ξ hκ hξ => ?_
       simp +decide only [go_sem, c5]
       refine hκ _ _ ?_
       refine cd_ (fun c6 => ?_) (fun c6 => ?_)
       ·try simp only [go_sem] at c6
        refine sr_ [1, 3] [] [] fun κ ξ hκ hξ => ?_
        simp +decide only [go_sem, c6]
        refine hκ _ _ ?_
        refine sr_ [1, 3, 4] [] [] fun κ ξ hκ hξ => ?_
        simp +decide only [go_sem]
        refine hκ _ _ ?_
        refine rr_ [1, 3, 4, 5] [] [] fun κ ξ hκ hξ => ?_
        simp +decide only [go_sem]
        refine hκ _ _ ?_
        first
        | (exfalso; omega)
        | (refine ⟨(_, _, _), ?_, EnvLe.of_l ⟨by first | rfl | (simp only [*]; rfl), rfl, rfl, rfl, trivial⟩, .refl _⟩
           intro n k
           unfold opB
           (repeat (first | rw [if_pos (by omega)] | rw [if_neg (by omega)]))
           rw [Bool.eq_iff_iff]
           simp only [Bool.and_eq_true, decide_eq_true_eq]
           omega)
       ·try simp only [go_sem] at c6
        refine sq ?_
        refine sr_ [1, 4, 5, 8, 20] [] [] fun κ ξ hκ hξ => ?_
        simp +decide only [go_sem, c6]
        refine hκ _ _ ?_
        refine cd_ (fun c7 => ?_) (fun c7 => ?_)
        ·try simp only [go_sem] at c7
         refine sk ?_
         refine cd_ (fun c8 => ?_) (fun c8 => ?_)
         ·simp only [go_sem] at c8
          refine rr_ [1, 3, 4, 5] [] [] fun κ ξ hκ hξ => ?_
          simp +decide only [go_sem, c7]
          refine hκ _ _ ?_
          first
          | (exfalso; omega)
          | (refine ⟨(_, _, _), ?_, EnvLe.of_l ⟨by first | rfl | (simp only [*]; rfl), rfl, rfl, rfl, trivial⟩, .refl _⟩
             intro n k
             unfold opB
             (repeat (first | rw [if_pos (by omega)] | rw [if_neg (by omega)]))
             rw [Bool.eq_iff_iff]
             simp only [Bool.and_eq_true, decide_eq_true_eq]
             omega)
         ·exfalso
          simp only [go_sem] at c8
          omega
        ·try simp only [go_sem] at c7
         refine sr_ [1, 4, 5, 8, 20] [] [] fun κ ξ hκ hξ => ?_
         simp +decide only [go_sem, c7]
         refine hκ _ _ ?_
         refine cd_ (fun c9 => ?_) (fun c9 => ?_)
         ·try simp only [go_sem] at c9
          refine sk ?_
          refine cd_ (fun c10 => ?_) (fun c10 => ?_)
          ·simp only [go_sem] at c10
           refine rr_ [1, 3, 4, 5] [] [] fun κ ξ hκ hξ => ?_
           simp +decide only [go_sem, c9]
           refine hκ _ _ ?_
           first
           | (exfalso; omega)
           | (refine ⟨(_, _, _), ?_, EnvLe.of_l ⟨by first | rfl | (simp only [*]; rfl), rfl, rfl, rfl, trivial⟩, .refl _⟩
              intro n k
              unfold opB
              (repeat (first | rw [if_pos (by omega)] | rw [if_neg (by omega)]))
              rw [Bool.eq_iff_iff]
              simp only [Bool.and_eq_true, decide_eq_true_eq]
              omega)
          ·exfalso
           simp only [go_sem] at c10
           omega
         ·try simp only [go_sem] at c9
          refine sr_ [1, 4, 5, 8, 20] [] [] fun κ ξ hκ hξ => ?_
          simp +decide only [go_sem, c9]
          refine hκ _ _ ?_
          refine cd_ (fun c11 => ?_) (fun c11 => ?_)
          ·try simp only [go_sem] at c11
           refine sk ?_
           refine cd_ (fun c12 => ?_) (fun c12 => ?_)
           ·simp only [go_sem] at c12
            refine rr_ [1, 3, 4, 5] [] [] fun κ ξ hκ hξ => ?_
            simp +decide only [go_sem, c11]
            refine hκ _ _ ?_
            first
            | (exfalso; omega)
            | (refine ⟨(_, _, _), ?_, EnvLe.of_l ⟨by first | rfl | (simp only [*]; rfl), rfl, rfl, rfl, trivial⟩, .refl _⟩
               intro n k
               unfold opB
               (repeat (first | rw [if_pos (by omega)] | rw [if_neg (by omega)]))
               rw [Bool.eq_iff_iff]
               simp only [Bool.and_eq_true, decide_eq_true_eq]
               omega)
           ·exfalso
            simp only [go_sem] at c12
            omega
          ·try simp only [go_sem] at c11
           refine rr_ [1, 4, 5, 20] [] [] fun κ ξ hκ hξ => ?_
           simp +decide only [go_sem, c11]
           refine hκ _ _ ?_
           refine cd_ (fun c13 => ?_) (fun c13 => ?_)
           ·try simp only [go_sem] at c13
            refine rr_ [1, 3, 4, 5] [] [] fun κ ξ hκ hξ => ?_
            simp +decide only [go_sem, c13]
            refine hκ _ _ ?_
            first
            | (exfalso; omega)
            | (refine ⟨(_, _, _), ?_, EnvLe.of_l ⟨by first | rfl | (simp only [*]; rfl), rfl, rfl, rfl, trivial⟩, .refl _⟩
               intro n k
               unfold opB
               (repeat (first | rw [if_pos (by omega)] | rw [if_neg (by omega)]))
               rw [Bool.eq_iff_iff]
               simp only [Bool.and_eq_true, decide_eq_true_eq]
               omega)
           ·try simp only [go_sem] at c13
            refine sr_ [2] [] [] fun κ ξ hκ hξ => ?_
            simp +decide only [go_sem, c13]
            refine hκ _ _ ?_
            refine rt ?_
            refine retE ?_
            simp +decide only [go_sem, resD, resV, c0, c1, c3, c4, c5, c6, c7, c9, c11, c13]
            first
            | (exfalso; omega)
            | (congr 1; symm; apply exN_op; unfold opB; (repeat rw [if_neg (by omega)]); done)
            | (congr 1; symm; apply exN_op; rw [hop, ← Bool.not_eq_true]; simp only [Bool.and_eq_true, decide_eq_true_eq]; omega)
            | (congr 1; symm; exact exN_kid (i := i) (by omega) (by assumption))
            | (congr 1; symm; refine exN_true ?_ fun j h => hj j (by omega); rw [hop]; simp only [Bool.and_eq_true, decide_eq_true_eq]; omega)
            | trace_state
 ·rintro ⟨ks, lo, hi⟩ hop
  simp only at hop
  have hop := hop e.num e.kids.length
  refine sq ?_
  refine sr_ [1, 37] [] [(5, 30)] fun κ ξ hκ hξ => ?_
  simp +decide only [go_sem]
  refine vo_gc ?_
  simp +decide only [go_sem]
  refine gcF (rin_w _ _ _) ?_
  simp +decide only [go_sem]
  refine hκ _ _ ?_
  refine cd_ (fun c14 => ?_) (fun c14 => ?_)
  ·try simp only [go_sem] at c14
   refine sr_ [2] [] [] fun κ ξ hκ hξ => ?_
   simp +decide only [go_sem]
   refine hκ _ _ ?_
   refine rt ?_
   refine retE ?_
   simp +decide only [go_sem, resD, resV, c14]
   first
   | (exfalso; omega)
   | (congr 1; symm; apply exN_op; unfold opB; (repeat rw [if_neg (by omega)]); done)
   | (congr 1; symm; apply exN_op; rw [hop, ← Bool.not_eq_true]; simp only [Bool.and_eq_true, decide_eq_true_eq]; omega)
   | (congr 1; symm; exact exN_kid (i := i) (by omega) (by assumption))
   | (congr 1; symm; refine exN_true ?_ fun j h => hj j (by omega); rw [hop]; simp only [Bool.and_eq_true, decide_eq_true_eq]; omega)
   | trace_state
  ·try simp only [go_sem] at c14
   refine sk ?_
   refine sq ?_
   refine sr_ [1, 6] [] [] fun κ ξ hκ hξ => ?_
   simp +decide only [go_sem, c14]
   refine hκ _ _ ?_
   refine bl ?_
   refine lp (α := Nat) (fun i => mk [(1, .el [.int .i64 e.op, .int .i64 e.num, .sl 3 (e.kids.map erow) .no]), (6, .int .i64 i)]) (fun _ => []) (fun i => i ≤ e.kids.length ∧ ∀ j, j < i → exN (eat e.kids j) = true) (fun i => e.kids.length - i) 0 ⟨⟨by omega, by intro j hj; omega⟩, EnvLe.of_eq rfl, .refl _⟩ ?_
   rintro i ⟨hi, hj⟩
   refine sq ?_
   refine sr_ [1, 6, 42] [] [] fun κ ξ hκ hξ => ?_
   simp +decide only [go_sem, c14]
   refine hκ _ _ ?_
   refine cd_ (fun c15 => ?_) (fun c15 => ?_)
   ·try simp only [go_sem] at c15
    refine sk ?_
    refine sq ?_
    refine bl ?_
    refine sr_ [1, 6, 51] [] [] fun κ ξ hκ hξ => ?_
    simp +decide only [go_sem, c14, c15]
    repeat with_reducible refine an_ ?_
    refine callF (ih (eat e.kids i) (kid_lt (by omega))) ?_
    simp +decide only [go_sem]
    refine hκ _ _ ?_
    refine cd_ (fun c16 => ?_) (fun c16 => ?_)
    ·try simp only [go_sem] at c16
     refine sr_ [2] [] [] fun κ ξ hκ hξ => ?_
     simp +decide only [go_sem, c16]
     refine hκ _ _ ?_
     refine rt ?_
     refine retE ?_
     simp +decide only [go_sem, resD, resV, c14, c15, c16]
     first
     | (exfalso; omega)
     | (congr 1; symm; apply exN_op; unfold opB; (repeat rw [if_neg (by omega)]); done)
     | (congr 1; symm; apply exN_op; rw [hop, ← Bool.not_eq_true]; simp only [Bool.and_eq_true, decide_eq_true_eq]; omega)
     | (congr 1; symm; exact exN_kid (i := i) (by omega) (by assumption))
     | (congr 1; symm; refine exN_true ?_ fun j h => hj j (by omega); rw [hop]; simp only [Bool.and_eq_true, decide_eq_true_eq]; omega)
     | trace_state
    ·try simp only [go_sem] at c16
     refine sk ?_
     refine rr_ [1, 6] [] [] fun κ ξ hκ hξ => ?_
     simp +decide only [go_sem, c16]
     refine hκ _ _ ?_
     refine ⟨i + 1, ⟨⟨by omega, ?_⟩, by omega⟩, EnvLe.of_eq (by rw [w64 (by omega)]; rfl), List.nil_sublist _⟩
     intro j h
     rcases Nat.lt_succ_iff_lt_or_eq.1 h with h | rfl
     ·exact hj j h
     ·first | assumption | simpa using c3
   ·try simp only [go_sem] at c15
    refine ex ?_
    refine sr_ [2] [] [] fun κ ξ hκ hξ => ?_
    simp +decide only [go_sem, c15]
    refine hκ _ _ ?_
    refine rt ?_
    refine retE ?_
    simp +decide only [go_sem, resD, resV, c14, c15]
    first
    | (exfalso; omega)
    | (congr 1; symm; apply exN_op; unfold opB; (repeat rw [if_neg (by omega)]); done)
    | (congr 1; symm; apply exN_op; rw [hop, ← Bool.not_eq_true]; simp only [Bool.and_eq_true, decide_eq_true_eq]; omega)
    | (congr 1; symm; exact exN_kid (i := i) (by omega) (by assumption))
    | (congr 1; symm; refine exN_true ?_ fun j h => hj j (by omega); rw [hop]; simp only [Bool.and_eq_true, decide_eq_true_eq]; omega)
    | trace_state
theorem nodes_w (e : Ex) : PCall Tryz.prog (.func 173) [.ag [.int .i64 e.op, .int .i64 e.num, .sl 3 (e.kids.map erow) .no]] (.bool (exN e)) := by
 suffices h : ∀ n (e : Ex), exS e ≤ n → PCall Tryz.prog (.func 173) [.ag [.int .i64 e.op, .int .i64 e.num, .sl 3 (e.kids.map erow) .no]] (.bool (exN e)) from h _ e (Nat.le_refl _)
 intro n
 induction n with
 | zero => intro e he; have := exS_pos e; omega
 | succ n ih => exact fun e he => nodes_s e fun k hk => ih k (by omega)
end Go.Proofs.YtinhjbnljbmbcaaGreat
/- The walks of the reference's rules. Printed by a tool of our own. -/
namespace Go.Proofs.YtinhjbnljbmbcaaGreat
open Go Go.RowKit
set_option linter.unusedSimpArgs false
set_option linter.unusedVariables false
set_option maxHeartbeats 4000000
set_option maxRecDepth 100000
attribute [local go_sem] List.length_map rowAt_n nrow rowAt_t trow rowAt_i irow
attribute [local go_sem] rowAt_e rowAt_tm rowAt_dc rowAt_ru tmrow dcrow rurow
attribute [local go_sem] srt_get srt_look
theorem rex_w (e : Ex) : PCall Tryz.prog (.func 124) [.ag [.int .i64 e.op, .int .i64 e.num, .sl 3 (e.kids.map erow) .no]] (.bool (exB e)) := by
 refine PCall.le ?_
 refine fn_ Tryz.func124 (by rfl) (by rfl) (rs := [.tmp 2]) (by rfl) (by simp [Tryz.f124]) ?_
 refine sr_ [1] [1] [] fun κ ξ hκ hξ => ?_
 simp +decide only [go_sem]
 refine hκ _ _ ?_
 refine sr_ [2] [] [(3, 6)] fun κ ξ hκ hξ => ?_
 simp +decide only [go_sem]
 refine callF (size_w e 30 100 (by omega) (by omega)) ?_
 simp +decide only [go_sem]
 refine vo_gc ?_
 simp +decide only [go_sem]
 refine gcF (nodes_w _) ?_
 simp +decide only [go_sem]
 refine hκ _ _ ?_
 refine rt ?_
 refine retE ?_
 simp +decide only [go_sem, resD, resV]
 all_goals congr 1
 all_goals unfold exB szE
 all_goals by_cases h : exD e ≤ 30 ∧ exS e ≤ 100
 ·rw [if_pos h, decide_eq_true h]
  simp
  omega
 ·rw [if_neg h, decide_eq_false h]
  simp
theorem fewx_w (e : Ex) : PCall Tryz.prog (.func 95) [.ag [.int .i64 e.op, .int .i64 e.num, .sl 3 (e.kids.map erow) .no]] (.bool (fewX e)) := by
 refine PCall.le ?_
 refine fn_ Tryz.func95 (by rfl) (by rfl) (rs := [.tmp 2]) (by rfl) (by simp [Tryz.f95]) ?_
 refine sr_ [1] [1] [] fun κ ξ hκ hξ => ?_
 simp +decide only [go_sem]
 refine hκ _ _ ?_
 refine sr_ [2] [] [] fun κ ξ hκ hξ => ?_
 simp +decide only [go_sem]
 refine callF (size_w e 40 150 (by omega) (by omega)) ?_
 simp +decide only [go_sem]
 refine hκ _ _ ?_
 refine rt ?_
 refine retE ?_
 simp +decide only [go_sem, resD, resV]
 all_goals congr 1
 all_goals unfold fewX szE
 all_goals by_cases h : exD e ≤ 40 ∧ exS e ≤ 150
 ·rw [if_pos h, decide_eq_true h]
  simp
  omega
 ·rw [if_neg h, decide_eq_false h]
  simp
theorem rru_w (r : Ru) : PCall Tryz.prog (.func 78) [.ag (rurow r)] (.bool (ruB r)) := by
 refine PCall.ok fun hok => ?_
 simp only [okAll, D.ok, okRows, and_true, true_and, lim_eq, inR_i64', inR_i32', inR_u8', inR_u16', inR_u64'] at hok
 simp only [rurow, okAll, D.ok, okRows, and_true, true_and, lim_eq, inR_i64'] at hok
 obtain ⟨h1, ⟨ht, htr⟩, ⟨hw, hwr⟩, hd, hdr⟩ := hok; rw [List.length_map] at ht hw hd
 refine PCall.le ?_
 refine fn_ Tryz.func78 (by rfl) (by rfl) (rs := [.tmp 2]) (by rfl) (by simp [Tryz.f78]) ?_
 refine sr_ [1] [1] [] fun κ ξ hκ hξ => ?_
 simp +decide only [go_sem]
 refine hκ _ _ ?_
 refine sq ?_
 refine sr_ [1, 26] [] [(4, 9), (10, 15), (16, 21)] fun κ ξ hκ hξ => ?_
 simp +decide only [go_sem]
 refine callF (rin_w _ _ _) ?_
 simp +decide only [go_sem]
 refine vo_gc ?_
 simp +decide only [go_sem]
 refine gcF (rsel_w _ _) ?_
 simp +decide only [go_sem]
 refine hκ _ _ ?_
 refine cd_ (fun c0 => ?_) (fun c0 => ?_)
 ·try simp only [go_sem] at c0
  refine sr_ [2] [] [] fun κ ξ hκ hξ => ?_
  simp +decide only [go_sem]
  refine hκ _ _ ?_
  refine rt ?_
  refine retE ?_
  simp +decide only [go_sem, resD, resV, c0]
  congr 1
  unfold ruB
  symm
  rw [← Bool.not_eq_true]
  simp only [Bool.and_eq_true, decide_eq_true_eq]
  rintro ⟨⟨⟨⟨⟨a, b⟩, c⟩, d⟩, _⟩, _⟩
  rw [b] at c0
  simp at c0
  omega
 ·try simp only [go_sem] at c0
  refine sk ?_
  refine sq ?_
  refine sr_ [1, 3] [] [] fun κ ξ hκ hξ => ?_
  simp +decide only [go_sem, c0]
  refine hκ _ _ ?_
  refine bl ?_
  refine lp (α := Nat) (fun i => mk [(1, .el [.int .i64 r.lay, .sl 4 (r.tests.map trow) .no, .sl 2 (r.whe.map tmrow) .no, .sl 4 (r.decls.map dcrow) .no]), (3, .int .i64 i)]) (fun i => []) (fun i => i ≤ r.whe.length ∧ ∀ j, j < i → tmB (tmat r.whe j) = true) (fun i => r.whe.length - i) 0 ⟨⟨by omega, by intro j hj; omega⟩, EnvLe.of_eq rfl, .refl _⟩ ?_
  rintro i ⟨hi, hj⟩
  refine sq ?_
  refine sr_ [1, 3, 31] [] [] fun κ ξ hκ hξ => ?_
  simp +decide only [go_sem]
  refine hκ _ _ ?_
  refine cd_ (fun c1 => ?_) (fun c1 => ?_)
  ·try simp only [go_sem] at c1
   refine sk ?_
   refine sq ?_
   refine bl ?_
   refine sr_ [1, 3, 40] [] [] fun κ ξ hκ hξ => ?_
   simp +decide only [go_sem, c1]
   repeat with_reducible refine an_ ?_
   refine callF (rtm_w _) ?_
   simp +decide only [go_sem]
   refine hκ _ _ ?_
   refine cd_ (fun c2 => ?_) (fun c2 => ?_)
   ·try simp only [go_sem] at c2
    refine sr_ [2] [] [] fun κ ξ hκ hξ => ?_
    simp +decide only [go_sem, c2]
    refine hκ _ _ ?_
    refine rt ?_
    refine retE ?_
    simp +decide only [go_sem, resD, resV, c0, c1, c2]
    congr 1
    unfold ruB
    rw [all_no tm0 (j := i) (by omega) (by assumption)]
    simp
   ·try simp only [go_sem] at c2
    refine sk ?_
    refine rr_ [1, 3] [] [] fun κ ξ hκ hξ => ?_
    simp +decide only [go_sem, c2]
    refine hκ _ _ ?_
    refine ⟨i + 1, ⟨⟨by omega, ?_⟩, by omega⟩, EnvLe.of_eq (by rw [w64 (by omega)]; rfl), List.nil_sublist _⟩
    intro j h
    rcases Nat.lt_succ_iff_lt_or_eq.1 h with h | rfl
    ·exact hj j h
    ·first | assumption | simpa using c2
  ·try simp only [go_sem] at c1
   refine ex ?_
   refine sq ?_
   refine sr_ [1, 4] [] [] fun κ ξ hκ hξ => ?_
   simp +decide only [go_sem, c1]
   refine hκ _ _ ?_
   refine bl ?_
   have hwa : ∀ j, j < r.whe.length → tmB (tmat r.whe j) = true := fun j h => hj j (by omega)
   refine lp (α := Nat) (fun i => mk [(1, .el [.int .i64 r.lay, .sl 4 (r.tests.map trow) .no, .sl 2 (r.whe.map tmrow) .no, .sl 4 (r.decls.map dcrow) .no]), (4, .int .i64 i)]) (fun i => []) (fun i => i ≤ r.decls.length ∧ ∀ j, j < i → dcB (dcat r.decls j) = true) (fun i => r.decls.length - i) 0 ⟨⟨by omega, by intro j hj; omega⟩, EnvLe.of_eq rfl, .refl _⟩ ?_
   rintro k ⟨hk, hjk⟩
   refine sq ?_
   refine sr_ [1, 4, 45] [] [] fun κ ξ hκ hξ => ?_
   simp +decide only [go_sem]
   refine hκ _ _ ?_
   refine cd_ (fun c3 => ?_) (fun c3 => ?_)
   ·try simp only [go_sem] at c3
    refine sk ?_
    refine sq ?_
    refine bl ?_
    refine sr_ [1, 4, 65] [] [(8, 56)] fun κ ξ hκ hξ => ?_
    simp +decide only [go_sem, c3]
    repeat with_reducible refine an_ ?_
    refine callF (rin_w _ _ _) ?_
    simp +decide only [go_sem, c3]
    repeat with_reducible refine an_ ?_
    refine vo_gc ?_
    simp +decide only [go_sem]
    refine gcF (rex_w _) ?_
    simp +decide only [go_sem]
    refine hκ _ _ ?_
    refine cd_ (fun c4 => ?_) (fun c4 => ?_)
    ·try simp only [go_sem] at c4
     refine sr_ [2] [] [] fun κ ξ hκ hξ => ?_
     simp +decide only [go_sem]
     refine hκ _ _ ?_
     refine rt ?_
     refine retE ?_
     simp +decide only [go_sem, resD, resV, c0, c1, c3, c4]
     congr 1
     unfold ruB
     rw [all_no dc0 (l := r.decls) (p := dcB) (j := k) (by omega) (by show dcB (dcat r.decls k) = false; unfold dcB; rcases c4 with c4 | c4 <;> simp [c4])]
     simp
    ·try simp only [go_sem] at c4
     refine sk ?_
     refine rr_ [1, 4] [] [] fun κ ξ hκ hξ => ?_
     simp +decide only [go_sem, c4]
     refine hκ _ _ ?_
     refine ⟨k + 1, ⟨⟨by omega, ?_⟩, by omega⟩, EnvLe.of_eq (by rw [w64 (by omega)]; rfl), List.nil_sublist _⟩
     intro j h
     rcases Nat.lt_succ_iff_lt_or_eq.1 h with h | rfl
     ·exact hjk j h
     ·unfold dcB
      rw [decide_eq_true c4.1, c4.2]; rfl
   ·try simp only [go_sem] at c3
    refine ex ?_
    refine sr_ [2] [] [] fun κ ξ hκ hξ => ?_
    simp +decide only [go_sem, c3]
    refine hκ _ _ ?_
    refine rt ?_
    refine retE ?_
    simp +decide only [go_sem, resD, resV, c0, c1, c3]
    congr 1
    unfold ruB
    rw [decide_eq_true c0.1.1.1, c0.1.1.2, decide_eq_true (show r.whe.length ≤ 8 by omega), decide_eq_true (show r.decls.length ≤ 40 by omega), (all_at tm0).2 hwa, (all_at dc0).2 fun j h => hjk j (by omega)]
    rfl
theorem rshv_w (l : List Ru) (t : Tok) : PCall Tryz.prog (.func 42) [.sl 4 (l.map rurow) t] (.bool (rulesB l)) := by
 refine PCall.ok fun hok => ?_
 simp only [okAll, D.ok, okRows, and_true, true_and, lim_eq, inR_i64', inR_i32', inR_u8', inR_u16', inR_u64'] at hok
 obtain ⟨hl, hr⟩ := hok; rw [List.length_map] at hl
 refine PCall.le ?_
 refine fn_ Tryz.func42 (by rfl) (by rfl) (rs := [.tmp 2]) (by rfl) (by simp [Tryz.f42]) ?_
 refine sr_ [0] [] [] fun κ ξ hκ hξ => ?_
 simp +decide only [go_sem]
 refine hκ _ _ ?_
 refine sq ?_
 refine sr_ [0, 3] [] [] fun κ ξ hκ hξ => ?_
 simp +decide only [go_sem]
 refine hκ _ _ ?_
 refine bl ?_
 refine lp (α := Nat) (fun i => mk [(0, .sl 4 (l.map rurow) t), (3, .int .i64 i)]) (fun i => []) (fun i => i ≤ l.length ∧ ∀ j, j < i → ruB (ruat l j) = true) (fun i => l.length - i) 0 ⟨⟨by omega, by intro j hj; omega⟩, EnvLe.of_eq rfl, .refl _⟩ ?_
 rintro i ⟨hi, hj⟩
 refine sq ?_
 refine sr_ [0, 3, 7] [] [] fun κ ξ hκ hξ => ?_
 simp +decide only [go_sem]
 refine hκ _ _ ?_
 refine cd_ (fun c0 => ?_) (fun c0 => ?_)
 ·try simp only [go_sem] at c0
  refine sk ?_
  refine sq ?_
  refine bl ?_
  refine sr_ [0, 3, 15] [] [] fun κ ξ hκ hξ => ?_
  simp +decide only [go_sem, c0]
  repeat with_reducible refine an_ ?_
  refine callF (rru_w _) ?_
  simp +decide only [go_sem]
  refine hκ _ _ ?_
  refine cd_ (fun c1 => ?_) (fun c1 => ?_)
  ·try simp only [go_sem] at c1
   refine sr_ [2] [] [] fun κ ξ hκ hξ => ?_
   simp +decide only [go_sem, c1]
   refine hκ _ _ ?_
   refine rt ?_
   refine retE ?_
   simp +decide only [go_sem, resD, resV, c0, c1]
   congr 1
   unfold rulesB
   rw [all_no ru0 (j := i) (by omega) (by assumption)]
   simp
  ·try simp only [go_sem] at c1
   refine sk ?_
   refine rr_ [0, 3] [] [] fun κ ξ hκ hξ => ?_
   simp +decide only [go_sem, c1]
   refine hκ _ _ ?_
   refine ⟨i + 1, ⟨⟨by omega, ?_⟩, by omega⟩, EnvLe.of_eq (by rw [w64 (by omega)]; rfl), List.nil_sublist _⟩
   intro j h
   rcases Nat.lt_succ_iff_lt_or_eq.1 h with h | rfl
   ·exact hj j h
   ·first | assumption | simpa using c1
 ·try simp only [go_sem] at c0
  refine ex ?_
  refine sr_ [2] [] [] fun κ ξ hκ hξ => ?_
  simp +decide only [go_sem, c0]
  refine hκ _ _ ?_
  refine rt ?_
  refine retE ?_
  simp +decide only [go_sem, resD, resV, c0]
  congr 1
  unfold rulesB
  rw [(all_at ru0).2 fun j h => hj j (by omega), Bool.and_true, decide_eq_decide]
  omega
theorem fewr_w (l : List Ru) (t : Tok) : PCall Tryz.prog (.func 60) [.sl 4 (l.map rurow) t] (.bool (fewRs l)) := by
 refine PCall.ok fun hok => ?_
 simp only [okAll, D.ok, okRows, and_true, true_and, lim_eq, inR_i64', inR_i32', inR_u8', inR_u16', inR_u64'] at hok
 obtain ⟨hl, hr⟩ := hok; rw [List.length_map] at hl
 refine PCall.le ?_
 refine fn_ Tryz.func60 (by rfl) (by rfl) (rs := [.tmp 2]) (by rfl) (by simp [Tryz.f60]) ?_
 refine sr_ [0] [] [] fun κ ξ hκ hξ => ?_
 simp +decide only [go_sem]
 refine hκ _ _ ?_
 refine sq ?_
 refine sr_ [0, 3] [] [] fun κ ξ hκ hξ => ?_
 simp +decide only [go_sem]
 refine hκ _ _ ?_
 refine bl ?_
 refine lp (α := Nat) (fun i => mk [(0, .sl 4 (l.map rurow) t), (3, .int .i64 i)]) (fun i => []) (fun i => i ≤ l.length ∧ ∀ j, j < i → fewR (ruat l j) = true) (fun i => l.length - i) 0 ⟨⟨by omega, by intro j hj; omega⟩, EnvLe.of_eq rfl, .refl _⟩ ?_
 rintro i ⟨hi, hj⟩
 refine sq ?_
 refine sr_ [0, 3, 8] [] [] fun κ ξ hκ hξ => ?_
 simp +decide only [go_sem]
 refine hκ _ _ ?_
 refine cd_ (fun c0 => ?_) (fun c0 => ?_)
 ·try simp only [go_sem] at c0
  refine sk ?_
  refine sq ?_
  refine bl ?_
  refine sq ?_
  refine sr_ [0, 3, 35] [] [(7, 18), (16, 27)] fun κ ξ hκ hξ => ?_
  simp +decide only [go_sem, c0]
  repeat with_reducible refine an_ ?_
  refine hκ _ _ ?_
  refine cd_ (fun c1 => ?_) (fun c1 => ?_)
  ·try simp only [go_sem] at c1
   refine sr_ [2] [] [] fun κ ξ hκ hξ => ?_
   simp +decide only [go_sem]
   refine hκ _ _ ?_
   refine rt ?_
   refine retE ?_
   simp +decide only [go_sem, resD, resV, c0, c1]
   congr 1
   unfold fewRs
   rw [all_no ru0 (j := i) (by omega) (by show fewR (ruat l i) = false; unfold fewR; rw [decide_eq_false (by omega)]; rfl)]
   simp
  ·try simp only [go_sem] at c1
   refine sk ?_
   refine sr_ [0, 3, 4] [] [] fun κ ξ hκ hξ => ?_
   simp +decide only [go_sem, c1]
   refine hκ _ _ ?_
   refine bl ?_
   refine lp (α := Nat) (fun k => mk [(0, .sl 4 (l.map rurow) t), (3, .int .i64 i), (4, .int .i64 k)]) (fun i => []) (fun k => k ≤ (ruat l i).decls.length ∧ ∀ j, j < k → fewX (dcat (ruat l i).decls j).val = true) (fun k => (ruat l i).decls.length - k) 0 ⟨⟨by omega, by intro j hj; omega⟩, EnvLe.of_eq rfl, .refl _⟩ ?_
   rintro k ⟨hk, hjk⟩
   refine sq ?_
   refine sr_ [0, 3, 4, 43] [] [] fun κ ξ hκ hξ => ?_
   simp +decide only [go_sem, c0]
   repeat with_reducible refine an_ ?_
   refine hκ _ _ ?_
   refine cd_ (fun c2 => ?_) (fun c2 => ?_)
   ·try simp only [go_sem] at c2
    refine sk ?_
    refine sq ?_
    refine bl ?_
    refine sr_ [0, 3, 4, 56] [] [] fun κ ξ hκ hξ => ?_
    simp +decide only [go_sem, c0, c2]
    repeat with_reducible refine an_ ?_
    refine callF (fewx_w _) ?_
    simp +decide only [go_sem]
    refine hκ _ _ ?_
    refine cd_ (fun c3 => ?_) (fun c3 => ?_)
    ·try simp only [go_sem] at c3
     refine sr_ [2] [] [] fun κ ξ hκ hξ => ?_
     simp +decide only [go_sem, c3]
     refine hκ _ _ ?_
     refine rt ?_
     refine retE ?_
     simp +decide only [go_sem, resD, resV, c0, c1, c2, c3]
     congr 1
     unfold fewRs
     rw [all_no ru0 (j := i) (by omega) (by show fewR (ruat l i) = false; unfold fewR; rw [all_no dc0 (l := (ruat l i).decls) (j := k) (by omega) c3]; simp)]
     simp
    ·try simp only [go_sem] at c3
     refine sk ?_
     refine rr_ [0, 3, 4] [] [] fun κ ξ hκ hξ => ?_
     simp +decide only [go_sem, c3]
     refine hκ _ _ ?_
     refine ⟨k + 1, ⟨⟨by omega, ?_⟩, by omega⟩, EnvLe.of_eq (by rw [w64 (by omega)]; rfl), List.nil_sublist _⟩
     intro j h
     rcases Nat.lt_succ_iff_lt_or_eq.1 h with h | rfl
     ·exact hjk j h
     ·first | assumption | simpa using c3
   ·try simp only [go_sem] at c2
    refine ex ?_
    refine rr_ [0, 3] [] [] fun κ ξ hκ hξ => ?_
    simp +decide only [go_sem, c2]
    refine hκ _ _ ?_
    refine ⟨i + 1, ⟨⟨by omega, ?_⟩, by omega⟩, EnvLe.of_eq (by rw [w64 (by omega)]; rfl), List.nil_sublist _⟩
    intro j h
    rcases Nat.lt_succ_iff_lt_or_eq.1 h with h | rfl
    ·exact hj j h
    ·unfold fewR
     rw [decide_eq_true (by omega), (all_at dc0).2 fun j h => hjk j (by omega)]; rfl
 ·try simp only [go_sem] at c0
  refine ex ?_
  refine sr_ [2] [] [] fun κ ξ hκ hξ => ?_
  simp +decide only [go_sem, c0]
  refine hκ _ _ ?_
  refine rt ?_
  refine retE ?_
  simp +decide only [go_sem, resD, resV, c0]
  congr 1
  unfold fewRs
  rw [(all_at ru0).2 fun j h => hj j (by omega), Bool.and_true, decide_eq_decide]
  omega
end Go.Proofs.YtinhjbnljbmbcaaGreat
/- Rules are the same as themselves. Printed by a tool of our own. -/
namespace Go.Proofs.YtinhjbnljbmbcaaGreat
open Go Go.RowKit
set_option linter.unusedSimpArgs false
set_option linter.unusedVariables false
set_option maxHeartbeats 4000000
set_option maxRecDepth 100000
attribute [local go_sem] List.length_map rowAt_n nrow rowAt_t trow rowAt_i irow
attribute [local go_sem] rowAt_e rowAt_tm rowAt_dc rowAt_ru tmrow dcrow rurow
attribute [local go_sem] srt_get srt_look
end Go.Proofs.YtinhjbnljbmbcaaGreat
/- Joined. -/
namespace Go.Proofs.YtinhjbnljbmbcaaGreat
open Go Go.RowKit
set_option linter.unusedSimpArgs false
set_option linter.unusedVariables false
set_option maxHeartbeats 4000000
set_option maxRecDepth 100000
section
theorem rw2_0 (x y : List D) : rowAt [x, y] 0 = x := rfl
theorem rw2_1 (x y : List D) : rowAt [x, y] 1 = y := rfl
theorem rw1_0 (x : List D) : rowAt [x] 0 = x := rfl
def iD (n : Int) : D := .int .i64 n
theorem iD_all (l : List Int) : (l.map iD).all D.isCell = true := by
 rw [List.all_map]
 exact List.all_eq_true.2 fun _ _ => rfl
theorem iD_len (l : List Int) : (l.map iD).length = l.length := List.length_map ..
theorem tdiv_bd {n d : Int} (hd : 0 < d) : (0 ≤ n → 0 ≤ n.tdiv d ∧ n.tdiv d ≤ n) ∧ (n ≤ 0 → n ≤ n.tdiv d ∧ n.tdiv d ≤ 0) := by
 have key : ∀ m : Int, 0 ≤ m → 0 ≤ m.tdiv d ∧ m.tdiv d ≤ m := fun m hm => ⟨Int.tdiv_nonneg hm (by omega), Int.tdiv_le_self _ hm⟩
 refine ⟨key n, fun hn => ?_⟩
 have h := key (-n) (by omega)
 rw [Int.neg_tdiv] at h
 omega
theorem fdiv_ge {n d : Int} (hd : 0 < d) (hn : n < 0) : n ≤ n / d ∧ n / d < 0 := by
 have h1 := Int.ediv_lt_of_lt_mul hd (show n < 0 * d by omega)
 have h2 := Int.le_ediv_of_mul_le hd (show n * d ≤ n by
   have := Int.mul_le_mul_of_nonpos_left (show n ≤ 0 by omega) (show (1 : Int) ≤ d by omega)
   simpa using this)
 omega
attribute [local go_sem] List.length_map rowAt_n nrow rowAt_t trow rowAt_i irow
attribute [local go_sem] rowAt_e rowAt_tm rowAt_dc rowAt_ru tmrow dcrow rurow
attribute [local go_sem] iD_all iD_len rw2_0 rw2_1 rw1_0 Int.toNat_one
theorem vwi_w (n lo hi : Int) : PCall Tryz.prog (.func 92) [.int .i64 n, .int .i64 lo, .int .i64 hi] (.bool (decide (lo ≤ n ∧ n ≤ hi))) := by
 refine PCall.le ?_
 refine fn_ Tryz.func92 (by rfl) (by rfl) (rs := [.tmp 6]) (by rfl) (by simp [Tryz.f92]) ?_
 refine sr_ [0, 1, 2] [] [] fun κ ξ hκ hξ => ?_
 simp +decide only [go_sem]
 refine hκ _ _ ?_
 refine sr_ [6] [] [(3, 10)] fun κ ξ hκ hξ => ?_
 simp +decide only [go_sem]
 refine hκ _ _ ?_
 refine rt ?_
 refine retE ?_
 simp +decide only [go_sem, resD, resV]
 all_goals congr 1
 all_goals rw [Bool.eq_iff_iff]
 all_goals simp []
 all_goals omega
theorem cwi_w (n lo hi : Int) : PCall Tryz.prog (.func 53) [.int .i64 n, .int .i64 lo, .int .i64 hi] (.bool (decide (lo ≤ n ∧ n ≤ hi))) := by
 refine PCall.le ?_
 refine fn_ Tryz.func53 (by rfl) (by rfl) (rs := [.tmp 6]) (by rfl) (by simp [Tryz.f53]) ?_
 refine sr_ [0, 1, 2] [] [] fun κ ξ hκ hξ => ?_
 simp +decide only [go_sem]
 refine hκ _ _ ?_
 refine sr_ [6] [] [(3, 10)] fun κ ξ hκ hξ => ?_
 simp +decide only [go_sem]
 refine hκ _ _ ?_
 refine rt ?_
 refine retE ?_
 simp +decide only [go_sem, resD, resV]
 all_goals congr 1
 all_goals rw [Bool.eq_iff_iff]
 all_goals simp []
 all_goals omega
theorem vov_w (n d : Int) (hd : 0 < d) : PCall Tryz.prog (.func 187) [.int .i64 n, .int .i64 d] (.int .i64 (n / d)) := by
 refine PCall.ok fun hok => ?_
 simp only [okAll, D.ok, okRows, and_true, true_and, lim_eq, inR_i64', inR_i32', inR_u8', inR_u16', inR_u64'] at hok
 obtain ⟨hn, hd2⟩ := hok
 have hd0 : ¬ d = 0 := by omega
 have hbd := tdiv_bd (n := n) hd
 have hfl := flo (n := n) hd
 have hqw : IntKind.wrap .i64 (n.tdiv d) = n.tdiv d := w64 (by omega)
 refine PCall.le ?_
 refine fn_ Tryz.func187 (by rfl) (by rfl) (rs := [.tmp 4]) (by rfl) (by simp [Tryz.f187]) ?_
 refine sr_ [0, 1] [] [] fun κ ξ hκ hξ => ?_
 simp +decide only [go_sem]
 refine hκ _ _ ?_
 refine sr_ [0, 1, 5] [] [] fun κ ξ hκ hξ => ?_
 simp +decide only [go_sem, hqw]
 repeat with_reducible refine an_ ?_
 refine hκ _ _ ?_
 refine sq ?_
 refine sr_ [5, 12] [] [] fun κ ξ hκ hξ => ?_
 simp +decide only [go_sem]
 repeat with_reducible refine an_ ?_
 refine hκ _ _ ?_
 refine cd_ (fun c0 => ?_) (fun c0 => ?_)
 ·simp only [go_sem] at c0
  rw [if_pos c0] at hfl
  have hn0 : n < 0 := by
   rcases Int.lt_or_le n 0 with h | h
   ·exact h
   ·have := Int.tmod_nonneg d h; omega
  have hfg := fdiv_ge hd hn0
  have hrw : IntKind.wrap .i64 (n.tdiv d - 1) = n / d := by rw [hfl, w64 (by omega)]
  refine rr_ [5] [] [] fun κ ξ hκ hξ => ?_
  simp +decide only [go_sem, c0, hrw]
  refine hκ _ _ ?_
  refine sr_ [4] [] [] fun κ ξ hκ hξ => ?_
  simp +decide only [go_sem]
  refine hκ _ _ ?_
  refine rt ?_
  refine retE ?_
  simp +decide only [go_sem, resD, resV, hqw, c0, hrw]
  
 ·simp only [go_sem] at c0
  rw [if_neg c0] at hfl
  refine sk ?_
  refine sr_ [4] [] [] fun κ ξ hκ hξ => ?_
  simp +decide only [go_sem, c0, hfl]
  refine hκ _ _ ?_
  refine rt ?_
  refine retE ?_
  simp +decide only [go_sem, resD, resV, hqw, c0, hfl]
  
theorem shp_w (o : Int) : PCall Tryz.prog (.func 185) [.int .i64 o] (.tup [.ag [.int .i64 (sofT o).2.1, .int .i64 (sofT o).2.2, .int .i64 (sofT o).1], .bool (sofB o)]) := by
 refine PCall.le ?_
 refine fn_ Tryz.func185 (by rfl) (by rfl) (rs := [.cell 2 233, .tmp 3]) (by rfl) (by simp [Tryz.f185]) ?_
 refine sr_ [0, 2] [] [] fun κ ξ hκ hξ => ?_
 simp +decide only [go_sem]
 intro b2 hb2
 refine hκ _ _ ?_
 refine sq ?_
 refine sr_ [2, 4] [] [] fun κ ξ hκ hξ => ?_
 simp +decide only [go_sem]
 refine hκ _ _ ?_
 refine bl ?_
 refine sr_ [2, 4, 5] [] [] fun κ ξ hκ hξ => ?_
 simp +decide only [go_sem]
 refine hκ _ _ ?_
 refine cd_ (fun c0 => ?_) (fun c0 => ?_)
 ·try simp only [go_sem] at c0
  refine sr_ [2, 3] [] [] fun κ ξ hκ hξ => ?_
  simp +decide only [go_sem, c0]
  refine hκ _ _ ?_
  refine rt ?_
  refine retE ?_
  simp +decide only [go_sem, resD, resV, hb2, c0]
  all_goals first
  | (exfalso; omega)
  | (have ho : o = 1 := by assumption
     subst ho; rfl)
  | (have ho : o = 2 := by assumption
     subst ho; rfl)
  | (have ho : o = 3 := by assumption
     subst ho; rfl)
  | (have ho : o = 4 := by assumption
     subst ho; rfl)
  | (have ho : o = 7 := by assumption
     subst ho; rfl)
  | (have ho : o = 8 := by assumption
     subst ho; rfl)
  | (have ho : o = 5 := by assumption
     subst ho; rfl)
  | (have ho : o = 6 := by assumption
     subst ho; rfl)
  | (have ho : o = 9 := by assumption
     subst ho; rfl)
  | (have ho : o = 10 := by assumption
     subst ho; rfl)
  | (have hs : sof o = none := by
       unfold sof
       simp [srt, *]
     simp [sofT, sofB, hs])
 ·try simp only [go_sem] at c0
  refine sq ?_
  refine sr_ [2, 4, 8] [] [] fun κ ξ hκ hξ => ?_
  simp +decide only [go_sem, c0]
  refine hκ _ _ ?_
  refine cd_ (fun c1 => ?_) (fun c1 => ?_)
  ·try simp only [go_sem] at c1
   refine sk ?_
   refine cd_ (fun c2 => ?_) (fun c2 => ?_)
   ·simp only [go_sem] at c2
    refine sr_ [2, 3] [] [] fun κ ξ hκ hξ => ?_
    simp +decide only [go_sem, c1]
    refine hκ _ _ ?_
    refine rt ?_
    refine retE ?_
    simp +decide only [go_sem, resD, resV, hb2, c0, c1, c2]
    all_goals first
    | (exfalso; omega)
    | (have ho : o = 1 := by assumption
       subst ho; rfl)
    | (have ho : o = 2 := by assumption
       subst ho; rfl)
    | (have ho : o = 3 := by assumption
       subst ho; rfl)
    | (have ho : o = 4 := by assumption
       subst ho; rfl)
    | (have ho : o = 7 := by assumption
       subst ho; rfl)
    | (have ho : o = 8 := by assumption
       subst ho; rfl)
    | (have ho : o = 5 := by assumption
       subst ho; rfl)
    | (have ho : o = 6 := by assumption
       subst ho; rfl)
    | (have ho : o = 9 := by assumption
       subst ho; rfl)
    | (have ho : o = 10 := by assumption
       subst ho; rfl)
    | (have hs : sof o = none := by
         unfold sof
         simp [srt, *]
       simp [sofT, sofB, hs])
   ·exfalso
    revert c2
    simp [c1]
  ·try simp only [go_sem] at c1
   refine rr_ [2, 4, 8] [] [] fun κ ξ hκ hξ => ?_
   simp +decide only [go_sem, c1]
   refine hκ _ _ ?_
   refine cd_ (fun c3 => ?_) (fun c3 => ?_)
   ·try simp only [go_sem] at c3
    refine sr_ [2, 3] [] [] fun κ ξ hκ hξ => ?_
    simp +decide only [go_sem, c3]
    refine hκ _ _ ?_
    refine rt ?_
    refine retE ?_
    simp +decide only [go_sem, resD, resV, hb2, c0, c1, c3]
    all_goals first
    | (exfalso; omega)
    | (have ho : o = 1 := by assumption
       subst ho; rfl)
    | (have ho : o = 2 := by assumption
       subst ho; rfl)
    | (have ho : o = 3 := by assumption
       subst ho; rfl)
    | (have ho : o = 4 := by assumption
       subst ho; rfl)
    | (have ho : o = 7 := by assumption
       subst ho; rfl)
    | (have ho : o = 8 := by assumption
       subst ho; rfl)
    | (have ho : o = 5 := by assumption
       subst ho; rfl)
    | (have ho : o = 6 := by assumption
       subst ho; rfl)
    | (have ho : o = 9 := by assumption
       subst ho; rfl)
    | (have ho : o = 10 := by assumption
       subst ho; rfl)
    | (have hs : sof o = none := by
         unfold sof
         simp [srt, *]
       simp [sofT, sofB, hs])
   ·try simp only [go_sem] at c3
    refine sr_ [2, 4, 12] [] [] fun κ ξ hκ hξ => ?_
    simp +decide only [go_sem, c3]
    refine hκ _ _ ?_
    refine cd_ (fun c4 => ?_) (fun c4 => ?_)
    ·try simp only [go_sem] at c4
     refine sr_ [2, 3] [] [] fun κ ξ hκ hξ => ?_
     simp +decide only [go_sem, c4]
     refine hκ _ _ ?_
     refine rt ?_
     refine retE ?_
     simp +decide only [go_sem, resD, resV, hb2, c0, c1, c3, c4]
     all_goals first
     | (exfalso; omega)
     | (have ho : o = 1 := by assumption
        subst ho; rfl)
     | (have ho : o = 2 := by assumption
        subst ho; rfl)
     | (have ho : o = 3 := by assumption
        subst ho; rfl)
     | (have ho : o = 4 := by assumption
        subst ho; rfl)
     | (have ho : o = 7 := by assumption
        subst ho; rfl)
     | (have ho : o = 8 := by assumption
        subst ho; rfl)
     | (have ho : o = 5 := by assumption
        subst ho; rfl)
     | (have ho : o = 6 := by assumption
        subst ho; rfl)
     | (have ho : o = 9 := by assumption
        subst ho; rfl)
     | (have ho : o = 10 := by assumption
        subst ho; rfl)
     | (have hs : sof o = none := by
          unfold sof
          simp [srt, *]
        simp [sofT, sofB, hs])
    ·try simp only [go_sem] at c4
     refine sr_ [2, 4, 15] [] [] fun κ ξ hκ hξ => ?_
     simp +decide only [go_sem, c4]
     refine hκ _ _ ?_
     refine cd_ (fun c5 => ?_) (fun c5 => ?_)
     ·try simp only [go_sem] at c5
      refine sr_ [2, 3] [] [] fun κ ξ hκ hξ => ?_
      simp +decide only [go_sem, c5]
      refine hκ _ _ ?_
      refine rt ?_
      refine retE ?_
      simp +decide only [go_sem, resD, resV, hb2, c0, c1, c3, c4, c5]
      all_goals first
      | (exfalso; omega)
      | (have ho : o = 1 := by assumption
         subst ho; rfl)
      | (have ho : o = 2 := by assumption
         subst ho; rfl)
      | (have ho : o = 3 := by assumption
         subst ho; rfl)
      | (have ho : o = 4 := by assumption
         subst ho; rfl)
      | (have ho : o = 7 := by assumption
         subst ho; rfl)
      | (have ho : o = 8 := by assumption
         subst ho; rfl)
      | (have ho : o = 5 := by assumption
         subst ho; rfl)
      | (have ho : o = 6 := by assumption
         subst ho; rfl)
      | (have ho : o = 9 := by assumption
         subst ho; rfl)
      | (have ho : o = 10 := by assumption
         subst ho; rfl)
      | (have hs : sof o = none := by
           unfold sof
           simp [srt, *]
         simp [sofT, sofB, hs])
     ·try simp only [go_sem] at c5
      refine sr_ [2, 4, 18] [] [] fun κ ξ hκ hξ => ?_
      simp +decide only [go_sem, c5]
      refine hκ _ _ ?_
      refine cd_ (fun c6 => ?_) (fun c6 => ?_)
      ·try simp only [go_sem] at c6
       refine sr_ [2, 3] [] [] fun κ ξ hκ hξ => ?_
       simp +decide only [go_sem, c6]
       refine hκ _ _ ?_
       refine rt ?_
       refine retE ?_
       simp +decide only [go_sem, resD, resV, hb2, c0, c1, c3, c4, c5, c6]
       all_goals first
       | (exfalso; omega)
       | (have ho : o = 1 := by assumption
          subst ho; rfl)
       | (have ho : o = 2 := by assumption
          subst ho; rfl)
       | (have ho : o = 3 := by assumption
          subst ho; rfl)
       | (have ho : o = 4 := by assumption
          subst ho; rfl)
       | (have ho : o = 7 := by assumption
          subst ho; rfl)
       | (have ho : o = 8 := by assumption
          subst ho; rfl)
       | (have ho : o = 5 := by assumption
          subst ho; rfl)
       | (have ho : o = 6 := by assumption
          subst ho; rfl)
       | (have ho : o = 9 := by assumption
          subst ho; rfl)
       | (have ho : o = 10 := by assumption
          subst ho; rfl)
       | (have hs : sof o = none := by
            unfold sof
            simp [srt, *]
          simp [sofT, sofB, hs])
      ·try simp only [go_sem] at c6
       refine sq ?_
       refine sr_ [2, 4, 21] [] [] fun κ ξ hκ hξ => ?_
       simp +decide only [go_sem, c6]
       refine hκ _ _ ?_
       refine cd_ (fun c7 => ?_) (fun c7 => ?_)
       ·try simp only [go_sem] at c7
        refine sk ?_
        refine cd_ (fun c8 => ?_) (fun c8 => ?_)
        ·simp only [go_sem] at c8
         refine sr_ [2, 3] [] [] fun κ ξ hκ hξ => ?_
         simp +decide only [go_sem, c7]
         refine hκ _ _ ?_
         refine rt ?_
         refine retE ?_
         simp +decide only [go_sem, resD, resV, hb2, c0, c1, c3, c4, c5, c6, c7, c8]
         all_goals first
         | (exfalso; omega)
         | (have ho : o = 1 := by assumption
            subst ho; rfl)
         | (have ho : o = 2 := by assumption
            subst ho; rfl)
         | (have ho : o = 3 := by assumption
            subst ho; rfl)
         | (have ho : o = 4 := by assumption
            subst ho; rfl)
         | (have ho : o = 7 := by assumption
            subst ho; rfl)
         | (have ho : o = 8 := by assumption
            subst ho; rfl)
         | (have ho : o = 5 := by assumption
            subst ho; rfl)
         | (have ho : o = 6 := by assumption
            subst ho; rfl)
         | (have ho : o = 9 := by assumption
            subst ho; rfl)
         | (have ho : o = 10 := by assumption
            subst ho; rfl)
         | (have hs : sof o = none := by
              unfold sof
              simp [srt, *]
            simp [sofT, sofB, hs])
        ·exfalso
         revert c8
         simp [c7]
       ·try simp only [go_sem] at c7
        refine sr_ [2, 4, 21] [] [] fun κ ξ hκ hξ => ?_
        simp +decide only [go_sem, c7]
        refine hκ _ _ ?_
        refine cd_ (fun c9 => ?_) (fun c9 => ?_)
        ·try simp only [go_sem] at c9
         refine sk ?_
         refine cd_ (fun c10 => ?_) (fun c10 => ?_)
         ·simp only [go_sem] at c10
          refine sr_ [2, 3] [] [] fun κ ξ hκ hξ => ?_
          simp +decide only [go_sem, c9]
          refine hκ _ _ ?_
          refine rt ?_
          refine retE ?_
          simp +decide only [go_sem, resD, resV, hb2, c0, c1, c3, c4, c5, c6, c7, c9, c10]
          all_goals first
          | (exfalso; omega)
          | (have ho : o = 1 := by assumption
             subst ho; rfl)
          | (have ho : o = 2 := by assumption
             subst ho; rfl)
          | (have ho : o = 3 := by assumption
             subst ho; rfl)
          | (have ho : o = 4 := by assumption
             subst ho; rfl)
          | (have ho : o = 7 := by assumption
             subst ho; rfl)
          | (have ho : o = 8 := by assumption
             subst ho; rfl)
          | (have ho : o = 5 := by assumption
             subst ho; rfl)
          | (have ho : o = 6 := by assumption
             subst ho; rfl)
          | (have ho : o = 9 := by assumption
             subst ho; rfl)
          | (have ho : o = 10 := by assumption
             subst ho; rfl)
          | (have hs : sof o = none := by
               unfold sof
               simp [srt, *]
             simp [sofT, sofB, hs])
         ·exfalso
          revert c10
          simp [c9]
        ·try simp only [go_sem] at c9
         refine sr_ [2, 4, 21] [] [] fun κ ξ hκ hξ => ?_
         simp +decide only [go_sem, c9]
         refine hκ _ _ ?_
         refine cd_ (fun c11 => ?_) (fun c11 => ?_)
         ·try simp only [go_sem] at c11
          refine sk ?_
          refine cd_ (fun c12 => ?_) (fun c12 => ?_)
          ·simp only [go_sem] at c12
           refine sr_ [2, 3] [] [] fun κ ξ hκ hξ => ?_
           simp +decide only [go_sem, c11]
           refine hκ _ _ ?_
           refine rt ?_
           refine retE ?_
           simp +decide only [go_sem, resD, resV, hb2, c0, c1, c3, c4, c5, c6, c7, c9, c11, c12]
           all_goals first
           | (exfalso; omega)
           | (have ho : o = 1 := by assumption
              subst ho; rfl)
           | (have ho : o = 2 := by assumption
              subst ho; rfl)
           | (have ho : o = 3 := by assumption
              subst ho; rfl)
           | (have ho : o = 4 := by assumption
              subst ho; rfl)
           | (have ho : o = 7 := by assumption
              subst ho; rfl)
           | (have ho : o = 8 := by assumption
              subst ho; rfl)
           | (have ho : o = 5 := by assumption
              subst ho; rfl)
           | (have ho : o = 6 := by assumption
              subst ho; rfl)
           | (have ho : o = 9 := by assumption
              subst ho; rfl)
           | (have ho : o = 10 := by assumption
              subst ho; rfl)
           | (have hs : sof o = none := by
                unfold sof
                simp [srt, *]
              simp [sofT, sofB, hs])
          ·exfalso
           revert c12
           simp [c11]
         ·try simp only [go_sem] at c11
          refine rr_ [2, 21] [] [] fun κ ξ hκ hξ => ?_
          simp +decide only [go_sem, c11]
          refine hκ _ _ ?_
          refine cd_ (fun c13 => ?_) (fun c13 => ?_)
          ·try simp only [go_sem] at c13
           refine sr_ [2, 3] [] [] fun κ ξ hκ hξ => ?_
           simp +decide only [go_sem, c13]
           refine hκ _ _ ?_
           refine rt ?_
           refine retE ?_
           simp +decide only [go_sem, resD, resV, hb2, c0, c1, c3, c4, c5, c6, c7, c9, c11, c13]
           all_goals first
           | (exfalso; omega)
           | (have ho : o = 1 := by assumption
              subst ho; rfl)
           | (have ho : o = 2 := by assumption
              subst ho; rfl)
           | (have ho : o = 3 := by assumption
              subst ho; rfl)
           | (have ho : o = 4 := by assumption
              subst ho; rfl)
           | (have ho : o = 7 := by assumption
              subst ho; rfl)
           | (have ho : o = 8 := by assumption
              subst ho; rfl)
           | (have ho : o = 5 := by assumption
              subst ho; rfl)
           | (have ho : o = 6 := by assumption
              subst ho; rfl)
           | (have ho : o = 9 := by assumption
              subst ho; rfl)
           | (have ho : o = 10 := by assumption
              subst ho; rfl)
           | (have hs : sof o = none := by
                unfold sof
                simp [srt, *]
              simp [sofT, sofB, hs])
          ·try simp only [go_sem] at c13
           refine sk ?_
           refine sr_ [2, 3] [] [] fun κ ξ hκ hξ => ?_
           simp +decide only [go_sem, c13]
           refine hκ _ _ ?_
           refine rt ?_
           refine retE ?_
           simp +decide only [go_sem, resD, resV, hb2, c0, c1, c3, c4, c5, c6, c7, c9, c11, c13]
           all_goals first
           | (exfalso; omega)
           | (have ho : o = 1 := by assumption
              subst ho; rfl)
           | (have ho : o = 2 := by assumption
              subst ho; rfl)
           | (have ho : o = 3 := by assumption
              subst ho; rfl)
           | (have ho : o = 4 := by assumption
              subst ho; rfl)
           | (have ho : o = 7 := by assumption
              subst ho; rfl)
           | (have ho : o = 8 := by assumption
              subst ho; rfl)
           | (have ho : o = 5 := by assumption
              subst ho; rfl)
           | (have ho : o = 6 := by assumption
              subst ho; rfl)
           | (have ho : o = 9 := by assumption
              subst ho; rfl)
           | (have ho : o = 10 := by assumption
              subst ho; rfl)
           | (have hs : sof o = none := by
                unfold sof
                simp [srt, *]
              simp [sofT, sofB, hs])
theorem fmx_s (e : Ex) (bq L : Nat) (m : Int) (hL : L ≤ 30) (hm : -1000 ≤ m ∧ m ≤ 1000) (ih : ∀ k : Ex, exS k < exS e → ∀ (L : Nat) (m : Int), L ≤ 30 → (-1000 ≤ m ∧ m ≤ 1000) → RCall Tryz.prog (.func 139) [.ag [.int .i64 k.op, .int .i64 k.num, .sl 3 (k.kids.map erow) .no], .int .i64 L, .ptr bq 0] [(bq, .cells [.int .i64 m])] (fun y : Int => .bool (fmX k L m)) (fun y => [(bq, .cells [.int .i64 y])]) (fun y => fmX k L m = true → y = m - (exS k : Nat))) : RCall Tryz.prog (.func 139) [.ag [.int .i64 e.op, .int .i64 e.num, .sl 3 (e.kids.map erow) .no], .int .i64 L, .ptr bq 0] [(bq, .cells [.int .i64 m])] (fun y => .bool (fmX e L m)) (fun y => [(bq, .cells [.int .i64 y])]) (fun y => fmX e L m = true → y = m - (exS e : Nat)) := by
 refine RCall.ok fun hok => ?_
 simp only [okAll, D.ok, okRows, and_true, true_and, lim_eq, inR_i64', inR_i32', inR_u8', inR_u16', inR_u64'] at hok
 obtain ⟨⟨h1, h2, hl, hr⟩, _⟩ := hok; rw [List.length_map] at hl
 have hmw : IntKind.wrap .i64 (m - 1) = m - 1 := w64 (by omega)
 refine fn_ Tryz.func139 (by rfl) (by rfl) (rs := [.tmp 6]) (by rfl) (by simp [Tryz.f139]) ?_
 refine sr_ [1, 2, 3] [3] [] fun κ ξ hκ hξ => ?_
 simp +decide only [go_sem]
 refine hκ _ _ ?_
 refine srz_ [(7, [])] [1, 2, 3, 7, 8] [] [] fun κ ξ hκ hξ => ?_
 simp +decide only [go_sem]
 refine callF (shp_w _) ?_
 simp +decide only [go_sem]
 intro b7 hb7
 refine hκ _ _ ?_
 refine sr_ [1, 2, 3, 7, 8] [] [] fun κ ξ hκ hξ => ?_
 simp +decide only [go_sem, hmw]
 refine hκ _ _ ?_
 refine sq ?_
 refine sr_ [1, 2, 3, 51] [] [(2, 24), (6, 28), (12, 34), (20, 42)] fun κ ξ hκ hξ => ?_
 simp +decide only [go_sem]
 refine vo_gc ?_
 simp +decide only [go_sem]
 refine gcF (vwi_w _ _ _) ?_
 simp +decide only [go_sem]
 refine hκ _ _ ?_
 refine cd_ (fun c0 => ?_) (fun c0 => ?_)
 ·simp only [go_sem] at c0
  refine sr_ [6] [] [] fun κ ξ hκ hξ => ?_
  simp +decide only [go_sem]
  refine hκ _ _ ?_
  have hf : fmX e L m = false := by
   refine fmX_no ?_
   rcases c0 with (((c0 | c0) | c0) | c0) | c0
   ·exact .inl (by rw [srt_op, c0]; rfl)
   ·exact .inr (.inl (by omega))
   ·exact .inr (.inr (by omega))
   ·exact .inl (by rw [srt_op, decide_eq_false c0]; simp)
   ·exact .inl (by rw [srt_op, decide_eq_false c0]; simp)
  refine rt ?_
  refine retR (m - 1) ?_ ?_ ?_
  ·first | exact .refl _ | exact List.nil_sublist _ | exact List.sublist_cons_of_sublist _ (.refl _) | exact ((List.Sublist.refl _).cons _).cons _ | (simp [*]; done) | skip
  ·first | trivial | assumption | omega | (simp; done) | (simp [*]; done) | skip
  simp +decide only [go_sem, resD, resV, hmw, hb7, c0]
  rw [hf]
 ·simp only [go_sem] at c0
  have hop : opB e.op e.num e.kids.length = true := by
   rw [srt_op, c0.1.1.1.1, decide_eq_true (by omega), decide_eq_true (by omega)]; rfl
  have hL1 : 1 ≤ L := by omega
  have hm1 : 1 ≤ m := by omega
  have hlw : IntKind.wrap .i64 ((L : Int) - 1) = ((L - 1 : Nat) : Int) := by rw [w64 (by omega)]; omega
  replace c0 := hL1
  refine sk ?_
  refine sq ?_
  refine sr_ [1, 2, 53, 54, 55] [] [] fun κ ξ hκ hξ => ?_
  simp +decide only [go_sem]
  refine hκ _ _ ?_
  refine bl ?_
  refine lp (α := Nat) (fun i => mk [(1, .int .i64 L), (2, .ptr bq 0), (53, .sl 3 (e.kids.map erow) .no), (54, .int .i64 e.kids.length), (55, .int .i64 i)]) (fun i => [(bq, .cells [.int .i64 (m - 1 - (exSs (e.kids.take i) : Nat))])]) (fun i => (i ≤ e.kids.length ∧ (0 : Int) ≤ m - 1 - (exSs (e.kids.take i) : Nat)) ∧ ∀ j, j < i → exN (eat e.kids j) = true ∧ exD (eat e.kids j) ≤ L - 1) (fun i => e.kids.length - i) 0 ⟨⟨⟨by omega, by simp [exSs]; omega⟩, by intro j hj; omega⟩, EnvLe.of_eq rfl, by simp [exSs]⟩ ?_
  rintro i ⟨⟨hi, hn⟩, hj⟩
  refine sr_ [1, 2, 53, 54, 55, 56] [] [] fun κ ξ hκ hξ => ?_
  simp +decide only [go_sem]
  refine hκ _ _ ?_
  refine sq ?_
  refine cd_ (fun c1 => ?_) (fun c1 => ?_)
  ·try simp only [go_sem] at c1
   refine sk ?_
   refine sq ?_
   refine bl ?_
   refine srz_ [(10, [])] [1, 2, 10, 53, 54, 55] [] [] fun κ ξ hκ hξ => ?_
   simp +decide only [go_sem, c1]
   repeat with_reducible refine an_ ?_
   intro b10 hb10
   refine hκ _ _ ?_
   refine sr_ [1, 2, 53, 54, 55, 64] [] [] fun κ ξ hκ hξ => ?_
   simp +decide only [go_sem, hlw]
   refine callR (ih (eat e.kids i) (kid_lt (by omega)) (L - 1) (m - 1 - (exSs (e.kids.take i) : Nat)) (by omega) (by omega)) fun y hy => ?_
   simp +decide only [go_sem]
   refine hκ _ _ ?_
   refine cd_ (fun c2 => ?_) (fun c2 => ?_)
   ·simp only [go_sem] at c2
    refine sr_ [6] [] [] fun κ ξ hκ hξ => ?_
    simp +decide only [go_sem, c2]
    refine hκ _ _ ?_
    have hf : fmX e L m = false := fmX_kid (i := i) (by omega) c2 hL1
    refine rt ?_
    refine retR (y) ?_ ?_ ?_
    ·first | exact .refl _ | exact List.nil_sublist _ | exact List.sublist_cons_of_sublist _ (.refl _) | exact ((List.Sublist.refl _).cons _).cons _ | (simp [*]; done) | skip
    ·first | trivial | assumption | omega | (simp; done) | (simp [*]; done) | skip
    simp +decide only [go_sem, resD, resV, hmw, hb7, c0, hlw, c1, hb10, c2]
    rw [hf]
   ·simp only [go_sem] at c2
    have hk := fmX_true.1 c2
    have hy2 := hy c2
    refine sk ?_
    refine rr_ [1, 2, 53, 54, 55] [] [] fun κ ξ hκ hξ => ?_
    simp +decide only [go_sem, c2]
    refine hκ _ _ ?_
    have hs := exSs_take (l := e.kids) (i := i) (by omega)
    refine ⟨i + 1, ⟨⟨⟨by omega, by omega⟩, ?_⟩, by omega⟩, EnvLe.of_eq (by rw [w64 (n := (i : Int) + 1) (by omega)]; rfl), ?_⟩
    ·intro j h
     rcases Nat.lt_succ_iff_lt_or_eq.1 h with h | rfl
     ·exact hj j h
     ·exact ⟨hk.1, hk.2.1⟩
    ·rw [hy2, show m - 1 - (exSs (e.kids.take i) : Nat) - (exS (eat e.kids i) : Nat) = m - 1 - ((exSs (e.kids.take (i + 1)) : Nat) : Int) by omega]; exact .refl _
  ·try simp only [go_sem] at c1
   refine ex ?_
   refine sr_ [6] [] [] fun κ ξ hκ hξ => ?_
   simp +decide only [go_sem, c1]
   refine hκ _ _ ?_
   have e1 : i = e.kids.length := by omega
   subst e1
   have hf : fmX e L m = true := by
    rw [List.take_length] at hn
    exact fmX_end hL1 hop hj (by omega)
   have hok2 : fmX e L m = true → m - 1 - ((exSs (e.kids.take e.kids.length) : Nat) : Int) = m - (exS e : Nat) := fun _ => by rw [List.take_length, exS_eq]; omega
   refine rt ?_
   refine retR (m - 1 - ((exSs (e.kids.take e.kids.length) : Nat) : Int)) ?_ ?_ ?_
   ·first | exact .refl _ | exact List.nil_sublist _ | exact List.sublist_cons_of_sublist _ (.refl _) | exact ((List.Sublist.refl _).cons _).cons _ | (simp [*]; done) | skip
   ·first | trivial | assumption | omega | (simp; done) | (simp [*]; done) | skip
   simp +decide only [go_sem, resD, resV, hmw, hb7, c0, hlw, c1]
   rw [hf]
theorem fmx_w (k : Ex) (bq L : Nat) (m : Int) (hL : L ≤ 30) (hm : -1000 ≤ m ∧ m ≤ 1000) : RCall Tryz.prog (.func 139) [.ag [.int .i64 k.op, .int .i64 k.num, .sl 3 (k.kids.map erow) .no], .int .i64 L, .ptr bq 0] [(bq, .cells [.int .i64 m])] (fun y : Int => .bool (fmX k L m)) (fun y => [(bq, .cells [.int .i64 y])]) (fun y => fmX k L m = true → y = m - (exS k : Nat)) := by
 suffices h : ∀ n (k : Ex), exS k ≤ n → ∀ (L : Nat) (m : Int), L ≤ 30 → (-1000 ≤ m ∧ m ≤ 1000) → RCall Tryz.prog (.func 139) [.ag [.int .i64 k.op, .int .i64 k.num, .sl 3 (k.kids.map erow) .no], .int .i64 L, .ptr bq 0] [(bq, .cells [.int .i64 m])] (fun y : Int => .bool (fmX k L m)) (fun y => [(bq, .cells [.int .i64 y])]) (fun y => fmX k L m = true → y = m - (exS k : Nat)) from h _ k (Nat.le_refl _) L m hL hm
 intro n
 induction n with
 | zero => intro e he; have := exS_pos e; omega
 | succ n ih => exact fun e he L m hL hm => fmx_s e bq L m hL hm fun k hk a b ha hb => ih k (by omega) a b ha hb
theorem vva_w (e : Ex) : PCall Tryz.prog (.func 90) [.ag [.int .i64 e.op, .int .i64 e.num, .sl 3 (e.kids.map erow) .no]] (.bool (exB e)) := by
 refine PCall.le ?_
 refine fn_ Tryz.func90 (by rfl) (by rfl) (rs := [.tmp 2]) (by rfl) (by simp [Tryz.f90]) ?_
 refine sr_ [1] [1] [] fun κ ξ hκ hξ => ?_
 simp +decide only [go_sem]
 refine hκ _ _ ?_
 refine sr_ [1, 3] [] [] fun κ ξ hκ hξ => ?_
 simp +decide only [go_sem]
 intro b3 hb3
 refine hκ _ _ ?_
 refine sr_ [2] [] [] fun κ ξ hκ hξ => ?_
 simp +decide only [go_sem]
 refine callR (fmx_w e b3 30 100 (by omega) (by omega)) fun y _ => ?_
 simp +decide only [go_sem]
 refine hκ _ _ ?_
 refine rt ?_
 refine retE ?_
 simp +decide only [go_sem, resD, resV, hb3]
 rw [fmX_all]
theorem min_w (a b : Int) (t : Tok) : PCall Tryz.prog (.func 188) [.sl 1 [irow a, irow b] t] (.int .i64 (mnI a b)) := by
 refine PCall.le ?_
 refine fn_ Tryz.func188 (by rfl) (by rfl) (rs := [.tmp 2]) (by rfl) (by simp [Tryz.f188]) ?_
 refine sr_ [0] [] [] fun κ ξ hκ hξ => ?_
 simp +decide only [go_sem]
 refine hκ _ _ ?_
 refine sq ?_
 refine sr_ [0, 7] [] [] fun κ ξ hκ hξ => ?_
 simp +decide only [go_sem]
 refine hκ _ _ ?_
 refine cdf (by rfl) ?_
 refine sk ?_
 refine sr_ [0, 3] [] [] fun κ ξ hκ hξ => ?_
 simp +decide only [go_sem]
 refine hκ _ _ ?_
 refine sq ?_
 refine sr_ [0, 3, 4] [] [] fun κ ξ hκ hξ => ?_
 simp +decide only [go_sem]
 refine hκ _ _ ?_
 refine bl ?_
 refine lpN 2 ?_
 refine rnd ?_
 refine sq ?_
 refine sr_ [0, 3, 4, 15] [] [] fun κ ξ hκ hξ => ?_
 simp +decide only [go_sem]
 refine hκ _ _ ?_
 refine cdt (by rfl) ?_
 refine sk ?_
 refine sq ?_
 refine bl ?_
 refine rr_ [0, 3, 4] [] [] fun κ ξ hκ hξ => ?_
 simp +decide only [go_sem]
 refine hκ _ _ ?_
 refine rr_ [0, 3, 4] [] [] fun κ ξ hκ hξ => ?_
 simp +decide only [go_sem]
 refine hκ _ _ ?_
 refine rnd ?_
 refine sq ?_
 refine sr_ [0, 3, 4, 15] [] [] fun κ ξ hκ hξ => ?_
 simp +decide only [go_sem]
 refine hκ _ _ ?_
 refine cdf (by rfl) ?_
 refine ex ?_
 refine sr_ [2] [] [] fun κ ξ hκ hξ => ?_
 simp +decide only [go_sem]
 refine hκ _ _ ?_
 refine rt ?_
 refine retE ?_
 simp +decide only [go_sem, resD, resV]
 
theorem max_w (a b : Int) (t : Tok) : PCall Tryz.prog (.func 189) [.sl 1 [irow a, irow b] t] (.int .i64 (mxI a b)) := by
 refine PCall.le ?_
 refine fn_ Tryz.func189 (by rfl) (by rfl) (rs := [.tmp 2]) (by rfl) (by simp [Tryz.f189]) ?_
 refine sr_ [0] [] [] fun κ ξ hκ hξ => ?_
 simp +decide only [go_sem]
 refine hκ _ _ ?_
 refine sq ?_
 refine sr_ [0, 7] [] [] fun κ ξ hκ hξ => ?_
 simp +decide only [go_sem]
 refine hκ _ _ ?_
 refine cdf (by rfl) ?_
 refine sk ?_
 refine sr_ [0, 3] [] [] fun κ ξ hκ hξ => ?_
 simp +decide only [go_sem]
 refine hκ _ _ ?_
 refine sq ?_
 refine sr_ [0, 3, 4] [] [] fun κ ξ hκ hξ => ?_
 simp +decide only [go_sem]
 refine hκ _ _ ?_
 refine bl ?_
 refine lpN 2 ?_
 refine rnd ?_
 refine sq ?_
 refine sr_ [0, 3, 4, 15] [] [] fun κ ξ hκ hξ => ?_
 simp +decide only [go_sem]
 refine hκ _ _ ?_
 refine cdt (by rfl) ?_
 refine sk ?_
 refine sq ?_
 refine bl ?_
 refine rr_ [0, 3, 4] [] [] fun κ ξ hκ hξ => ?_
 simp +decide only [go_sem]
 refine hκ _ _ ?_
 refine rr_ [0, 3, 4] [] [] fun κ ξ hκ hξ => ?_
 simp +decide only [go_sem]
 refine hκ _ _ ?_
 refine rnd ?_
 refine sq ?_
 refine sr_ [0, 3, 4, 15] [] [] fun κ ξ hκ hξ => ?_
 simp +decide only [go_sem]
 refine hκ _ _ ?_
 refine cdf (by rfl) ?_
 refine ex ?_
 refine sr_ [2] [] [] fun κ ξ hκ hξ => ?_
 simp +decide only [go_sem]
 refine hκ _ _ ?_
 refine rt ?_
 refine retE ?_
 simp +decide only [go_sem, resD, resV]
 
end
section
def opF (o : Int) : D := .fn (.func (if o = 1 then 144 else if o = 2 then 145 else if o = 3 then 146 else if o = 4 then 147 else if o = 5 then 148 else if o = 6 then 149 else if o = 7 then 150 else if o = 8 then 151 else if o = 9 then 152 else 153)) [] []
def opN (o : Int) : Bool := decide (1 ≤ o ∧ o ≤ 10)
def opsE : List (D × D) := [(.int .i64 1, .fn (.func 144) [] []), (.int .i64 2, .fn (.func 145) [] []), (.int .i64 3, .fn (.func 146) [] []), (.int .i64 4, .fn (.func 147) [] []), (.int .i64 5, .fn (.func 148) [] []), (.int .i64 6, .fn (.func 149) [] []), (.int .i64 7, .fn (.func 150) [] []), (.int .i64 8, .fn (.func 151) [] []), (.int .i64 9, .fn (.func 152) [] []), (.int .i64 10, .fn (.func 153) [] [])]
theorem ops_get (o : Int) : mget (.int .i64 o) opsE = some (if opN o = true then some (opF o) else none) := by
 unfold opsE opN opF
 by_cases h : 1 ≤ o ∧ o ≤ 10
 ·rw [decide_eq_true h, if_pos rfl]
  obtain ⟨a, b⟩ := h
  have : o = 1 ∨ o = 2 ∨ o = 3 ∨ o = 4 ∨ o = 5 ∨ o = 6 ∨ o = 7 ∨ o = 8 ∨ o = 9 ∨ o = 10 := by omega
  rcases this with rfl | rfl | rfl | rfl | rfl | rfl | rfl | rfl | rfl | rfl <;> rfl
 ·rw [decide_eq_false h, if_neg (by simp)]
  simp [mget, keqD, show ¬ o = 1 by omega, show ¬ o = 2 by omega, show ¬ o = 3 by omega, show ¬ o = 4 by omega, show ¬ o = 5 by omega, show ¬ o = 6 by omega, show ¬ o = 7 by omega, show ¬ o = 8 by omega, show ¬ o = 9 by omega, show ¬ o = 10 by omega]
theorem ops_look (o : Int) (h : opN o = true) : lookD false (.v .nilFunc) (if opN o = true then some (opF o) else none) = opF o := by rw [if_pos h, lookD_fs]
theorem hd_i {l : List Int} {k : Nat} (h : k < l.length) : (List.map iD (List.drop k l)).headD .top = .int .i64 (l.getD k 0) := by
 rw [List.drop_eq_getElem_cons h, List.map_cons, List.headD_cons, List.getD_eq_getElem?_getD, List.getElem?_eq_getElem h]
 rfl
def missD : D := .ifc 238 (.ag [])
theorem mul_bd {a b A B : Int} (ha : -A ≤ a ∧ a ≤ A) (hb : -B ≤ b ∧ b ≤ B) : -(A * B) ≤ a * b ∧ a * b ≤ A * B := by
 have hA : 0 ≤ A := by omega
 have hB : 0 ≤ B := by omega
 have h1 : (a * b).natAbs ≤ (A * B).natAbs := by
  rw [Int.natAbs_mul, Int.natAbs_mul]
  exact Nat.mul_le_mul (by omega) (by omega)
 have h2 := Int.mul_nonneg hA hB
 omega
attribute [local go_sem] List.length_map rowAt_n nrow rowAt_t trow rowAt_i irow
attribute [local go_sem] rowAt_e rowAt_tm rowAt_dc rowAt_ru tmrow dcrow rurow
attribute [local go_sem] iD_all iD_len rw2_0 rw2_1 rw1_0 Int.toNat_one
attribute [local go_sem] ops_get ops_look hd_i
theorem on_w (w s : Int) (vs : List Int) (hvs : vs.length = 8) (n : Int) (l : List Int) (t : Tok) : PCall Tryz.prog (.func 144) [.ag (.int .i64 w :: .int .i64 s :: vs.map iD), .int .i64 n, .sl 1 (l.map irow) t] (.int .i64 n) := by
 refine PCall.le ?_
 refine fn_ Tryz.func144 (by rfl) (by rfl) (rs := [.tmp 6]) (by rfl) (by simp [Tryz.f144]) ?_
 refine sr_ [1] [3] [] fun κ ξ hκ hξ => ?_
 simp +decide only [go_sem]
 refine hκ _ _ ?_
 refine sr_ [6] [] [] fun κ ξ hκ hξ => ?_
 simp +decide only [go_sem]
 refine hκ _ _ ?_
 refine rt ?_
 refine retE ?_
 simp +decide only [go_sem, resD, resV]
 
theorem op_w (w s : Int) (vs : List Int) (hvs : vs.length = 8) (n : Int) (l : List Int) (t : Tok) (hn : -10000 ≤ n ∧ n ≤ 10000) (hw : 0 ≤ w ∧ w ≤ 1000000) (hs : 0 ≤ s ∧ s ≤ 1000000) : PCall Tryz.prog (.func 145) [.ag (.int .i64 w :: .int .i64 s :: vs.map iD), .int .i64 n, .sl 1 (l.map irow) t] (.int .i64 (n * w / 100)) := by
 have hb := mul_bd (a := n) (b := w) (A := 10000) (B := 1000000) (by omega) (by omega)
 have hmw : IntKind.wrap .i64 (n * w) = n * w := w64 (by omega)
 refine PCall.le ?_
 refine fn_ Tryz.func145 (by rfl) (by rfl) (rs := [.tmp 6]) (by rfl) (by simp [Tryz.f145]) ?_
 refine sr_ [1, 3] [3] [] fun κ ξ hκ hξ => ?_
 simp +decide only [go_sem]
 refine hκ _ _ ?_
 refine sr_ [6] [] [] fun κ ξ hκ hξ => ?_
 simp +decide only [go_sem, hmw]
 repeat with_reducible refine an_ ?_
 refine callF (vov_w _ _ (by omega)) ?_
 simp +decide only [go_sem]
 refine hκ _ _ ?_
 refine rt ?_
 refine retE ?_
 simp +decide only [go_sem, resD, resV, hmw]
 
theorem oe_w (w s : Int) (vs : List Int) (hvs : vs.length = 8) (n : Int) (l : List Int) (t : Tok) (hn : -10000 ≤ n ∧ n ≤ 10000) (hw : 0 ≤ w ∧ w ≤ 1000000) (hs : 0 ≤ s ∧ s ≤ 1000000) : PCall Tryz.prog (.func 146) [.ag (.int .i64 w :: .int .i64 s :: vs.map iD), .int .i64 n, .sl 1 (l.map irow) t] (.int .i64 (n * s / 100)) := by
 have hb := mul_bd (a := n) (b := s) (A := 10000) (B := 1000000) (by omega) (by omega)
 have hmw : IntKind.wrap .i64 (n * s) = n * s := w64 (by omega)
 refine PCall.le ?_
 refine fn_ Tryz.func146 (by rfl) (by rfl) (rs := [.tmp 6]) (by rfl) (by simp [Tryz.f146]) ?_
 refine sr_ [1, 3] [3] [] fun κ ξ hκ hξ => ?_
 simp +decide only [go_sem]
 refine hκ _ _ ?_
 refine sr_ [6] [] [] fun κ ξ hκ hξ => ?_
 simp +decide only [go_sem, hmw]
 repeat with_reducible refine an_ ?_
 refine callF (vov_w _ _ (by omega)) ?_
 simp +decide only [go_sem]
 refine hκ _ _ ?_
 refine rt ?_
 refine retE ?_
 simp +decide only [go_sem, resD, resV, hmw]
 
theorem ov_w (w s : Int) (vs : List Int) (hvs : vs.length = 8) (n : Int) (l : List Int) (t : Tok) (hn : 1 ≤ n ∧ n ≤ 8) : PCall Tryz.prog (.func 147) [.ag (.int .i64 w :: .int .i64 s :: vs.map iD), .int .i64 n, .sl 1 (l.map irow) t] (.int .i64 (vs.getD (n - 1).toNat 0)) := by
 obtain ⟨k, hk⟩ : ∃ k : Nat, n - 1 = (k : Int) := ⟨(n - 1).toNat, by omega⟩
 have hnw : IntKind.wrap .i64 (k : Int) = k := w64 (by omega)
 have hkl : k < vs.length := by omega
 refine PCall.le ?_
 refine fn_ Tryz.func147 (by rfl) (by rfl) (rs := [.tmp 6]) (by rfl) (by simp [Tryz.f147]) ?_
 refine sr_ [1, 3] [3] [] fun κ ξ hκ hξ => ?_
 simp +decide only [go_sem]
 refine hκ _ _ ?_
 refine sr_ [6] [] [] fun κ ξ hκ hξ => ?_
 simp +decide only [go_sem, hk, hnw, Int.toNat_natCast, Nat.mul_one, hd_i hkl]
 repeat with_reducible refine an_ ?_
 refine hκ _ _ ?_
 refine rt ?_
 refine retE ?_
 simp +decide only [go_sem, resD, resV, hk, hnw, Int.toNat_natCast, Nat.mul_one, hd_i hkl]
 
theorem os_w (w s : Int) (vs : List Int) (hvs : vs.length = 8) (n : Int) (l : List Int) (t : Tok) (hb : ∀ v ∈ l, -1000000000 ≤ v ∧ v ≤ 1000000000) (h2 : l.length = 2) : PCall Tryz.prog (.func 148) [.ag (.int .i64 w :: .int .i64 s :: vs.map iD), .int .i64 n, .sl 1 (l.map irow) t] (.int .i64 (l0 l + l1 l)) := by
 obtain ⟨a, b, rfl⟩ : ∃ a b, l = [a, b] := by
  match l, h2 with
  | [a, b], _ => exact ⟨a, b, rfl⟩
 have ha := hb a (by simp)
 have hbb := hb b (by simp)
 have hsw : IntKind.wrap .i64 (a + b) = a + b := w64 (by omega)
 refine PCall.le ?_
 refine fn_ Tryz.func148 (by rfl) (by rfl) (rs := [.tmp 6]) (by rfl) (by simp [Tryz.f148]) ?_
 refine sr_ [2] [3] [] fun κ ξ hκ hξ => ?_
 simp +decide only [go_sem, List.map_cons, List.map_nil]
 refine hκ _ _ ?_
 refine srd_ [6] [] [] [] fun κ ξ hκ hξ => ?_
 simp +decide only [go_sem, hsw, List.map_cons, List.map_nil]
 refine hκ _ _ ?_
 refine rt ?_
 refine retE ?_
 simp +decide only [go_sem, resD, resV, hsw, List.map_cons, List.map_nil]
 rfl
theorem ol_w (w s : Int) (vs : List Int) (hvs : vs.length = 8) (n : Int) (l : List Int) (t : Tok) (hb : ∀ v ∈ l, -1000000000 ≤ v ∧ v ≤ 1000000000) (h2 : l.length = 2) : PCall Tryz.prog (.func 149) [.ag (.int .i64 w :: .int .i64 s :: vs.map iD), .int .i64 n, .sl 1 (l.map irow) t] (.int .i64 (l0 l - l1 l)) := by
 obtain ⟨a, b, rfl⟩ : ∃ a b, l = [a, b] := by
  match l, h2 with
  | [a, b], _ => exact ⟨a, b, rfl⟩
 have ha := hb a (by simp)
 have hbb := hb b (by simp)
 have hsw : IntKind.wrap .i64 (a - b) = a - b := w64 (by omega)
 refine PCall.le ?_
 refine fn_ Tryz.func149 (by rfl) (by rfl) (rs := [.tmp 6]) (by rfl) (by simp [Tryz.f149]) ?_
 refine sr_ [2] [3] [] fun κ ξ hκ hξ => ?_
 simp +decide only [go_sem, List.map_cons, List.map_nil]
 refine hκ _ _ ?_
 refine srd_ [6] [] [] [] fun κ ξ hκ hξ => ?_
 simp +decide only [go_sem, hsw, List.map_cons, List.map_nil]
 refine hκ _ _ ?_
 refine rt ?_
 refine retE ?_
 simp +decide only [go_sem, resD, resV, hsw, List.map_cons, List.map_nil]
 rfl
theorem ot_w (w s : Int) (vs : List Int) (hvs : vs.length = 8) (n : Int) (l : List Int) (t : Tok) (hn : -1000 ≤ n ∧ n ≤ 1000) (hb : ∀ v ∈ l, -1000000000 ≤ v ∧ v ≤ 1000000000) (h1 : l.length = 1) : PCall Tryz.prog (.func 150) [.ag (.int .i64 w :: .int .i64 s :: vs.map iD), .int .i64 n, .sl 1 (l.map irow) t] (.int .i64 (n * l0 l)) := by
 obtain ⟨a, rfl⟩ : ∃ a, l = [a] := by
  match l, h1 with
  | [a], _ => exact ⟨a, rfl⟩
 have ha := hb a (by simp)
 have hmb := mul_bd (a := n) (b := a) (A := 1000) (B := 1000000000) (by omega) (by omega)
 have hmw : IntKind.wrap .i64 (n * a) = n * a := w64 (by omega)
 refine PCall.le ?_
 refine fn_ Tryz.func150 (by rfl) (by rfl) (rs := [.tmp 6]) (by rfl) (by simp [Tryz.f150]) ?_
 refine sr_ [1, 2] [3] [] fun κ ξ hκ hξ => ?_
 simp +decide only [go_sem, List.map_cons, List.map_nil]
 refine hκ _ _ ?_
 refine sr_ [6] [] [] fun κ ξ hκ hξ => ?_
 simp +decide only [go_sem, hmw, List.map_cons, List.map_nil]
 refine hκ _ _ ?_
 refine rt ?_
 refine retE ?_
 simp +decide only [go_sem, resD, resV, hmw, List.map_cons, List.map_nil]
 rfl
theorem oo_w (w s : Int) (vs : List Int) (hvs : vs.length = 8) (n : Int) (l : List Int) (t : Tok) (hn : 0 < n) (hb : ∀ v ∈ l, -1000000000 ≤ v ∧ v ≤ 1000000000) (h1 : l.length = 1) : PCall Tryz.prog (.func 151) [.ag (.int .i64 w :: .int .i64 s :: vs.map iD), .int .i64 n, .sl 1 (l.map irow) t] (.int .i64 (l0 l / n)) := by
 obtain ⟨a, rfl⟩ : ∃ a, l = [a] := by
  match l, h1 with
  | [a], _ => exact ⟨a, rfl⟩
 have ha := hb a (by simp)
 refine PCall.le ?_
 refine fn_ Tryz.func151 (by rfl) (by rfl) (rs := [.tmp 6]) (by rfl) (by simp [Tryz.f151]) ?_
 refine sr_ [1, 2] [3] [] fun κ ξ hκ hξ => ?_
 simp +decide only [go_sem, List.map_cons, List.map_nil]
 refine hκ _ _ ?_
 refine sr_ [6] [] [] fun κ ξ hκ hξ => ?_
 simp +decide only [go_sem, List.map_cons, List.map_nil]
 refine callF (vov_w _ _ (by omega)) ?_
 simp +decide only [go_sem]
 refine hκ _ _ ?_
 refine rt ?_
 refine retE ?_
 simp +decide only [go_sem, resD, resV, List.map_cons, List.map_nil]
 rfl
theorem omn_w (w s : Int) (vs : List Int) (hvs : vs.length = 8) (n : Int) (l : List Int) (t : Tok) (h2 : l.length = 2) : PCall Tryz.prog (.func 152) [.ag (.int .i64 w :: .int .i64 s :: vs.map iD), .int .i64 n, .sl 1 (l.map irow) t] (.int .i64 (mnI (l0 l) (l1 l))) := by
 obtain ⟨a, b, rfl⟩ : ∃ a b, l = [a, b] := by
  match l, h2 with
  | [a, b], _ => exact ⟨a, b, rfl⟩
 refine PCall.le ?_
 refine fn_ Tryz.func152 (by rfl) (by rfl) (rs := [.tmp 6]) (by rfl) (by simp [Tryz.f152]) ?_
 refine sr_ [2] [3] [] fun κ ξ hκ hξ => ?_
 simp +decide only [go_sem, List.map_cons, List.map_nil]
 refine hκ _ _ ?_
 refine sr_ [6] [] [] fun κ ξ hκ hξ => ?_
 simp +decide only [go_sem, List.map_cons, List.map_nil]
 refine callF (min_w _ _ _) ?_
 simp +decide only [go_sem]
 refine hκ _ _ ?_
 refine rt ?_
 refine retE ?_
 simp +decide only [go_sem, resD, resV, List.map_cons, List.map_nil]
 rfl
theorem omx_w (w s : Int) (vs : List Int) (hvs : vs.length = 8) (n : Int) (l : List Int) (t : Tok) (h2 : l.length = 2) : PCall Tryz.prog (.func 153) [.ag (.int .i64 w :: .int .i64 s :: vs.map iD), .int .i64 n, .sl 1 (l.map irow) t] (.int .i64 (mxI (l0 l) (l1 l))) := by
 obtain ⟨a, b, rfl⟩ : ∃ a b, l = [a, b] := by
  match l, h2 with
  | [a, b], _ => exact ⟨a, b, rfl⟩
 refine PCall.le ?_
 refine fn_ Tryz.func153 (by rfl) (by rfl) (rs := [.tmp 6]) (by rfl) (by simp [Tryz.f153]) ?_
 refine sr_ [2] [3] [] fun κ ξ hκ hξ => ?_
 simp +decide only [go_sem, List.map_cons, List.map_nil]
 refine hκ _ _ ?_
 refine sr_ [6] [] [] fun κ ξ hκ hξ => ?_
 simp +decide only [go_sem, List.map_cons, List.map_nil]
 refine callF (max_w _ _ _) ?_
 simp +decide only [go_sem]
 refine hκ _ _ ?_
 refine rt ?_
 refine retE ?_
 simp +decide only [go_sem, resD, resV, List.map_cons, List.map_nil]
 rfl
theorem ops_w  : RCall Tryz.prog (.func 94) [] [] (fun (b : Nat) => .mp b) (fun (b : Nat) => [(b, .map opsE)]) (fun (b : Nat) => True) := by
 refine fn_ Tryz.func94 (by rfl) (by rfl) (rs := [.tmp 0]) (by rfl) (by simp [Tryz.f94]) ?_
 refine sr_ [] [] [] fun κ ξ hκ hξ => ?_
 simp +decide only [go_sem]
 refine hκ _ _ ?_
 refine sr_ [0] [] [] fun κ ξ hκ hξ => ?_
 simp +decide only [go_sem]
 intro b1 hb1
 refine hκ _ _ ?_
 refine rt ?_
 refine retR (b1) ?_ ?_ ?_
 ·first | exact .refl _ | exact List.nil_sublist _ | exact List.sublist_cons_of_sublist _ (.refl _) | exact ((List.Sublist.refl _).cons _).cons _ | (simp [*]; done) | skip
 ·first | trivial | assumption | omega | (simp; done) | (simp [*]; done) | skip
 simp +decide only [go_sem, resD, resV, hb1]
 skip
end
end Go.Proofs.YtinhjbnljbmbcaaGreat

/- Joined. -/
import Derived.Test.YtinhjbnljbmbcaaGreatQ07
import Derived.Test.YtinhjbnljbmbcaaGreatQ03
import Derived.RecoverIn
import Derived.Test.YtinhjbnljbmbcaaGreatProg
import Derived.Tactics
import Derived.Tactics2
import Derived.TacticsInMore
import Derived.RegionIn
import Derived.Laws.Pointers
import Derived.Test.YtinhjbnljbmbcaaGreatQ06
import Derived.Test.YtinhjbnljbmbcaaGreatQ05
namespace Go.Proofs.YtinhjbnljbmbcaaGreat
open Go Go.RowKit
set_option linter.unusedSimpArgs false
set_option linter.unusedVariables false
set_option maxHeartbeats 4000000
set_option maxRecDepth 100000
section
theorem chunk_i : ∀ {n : Nat} {l : List Int}, l.length = n → chunk 1 n (l.map iD) = l.map irow
 | 0, [], _ => rfl
 | n + 1, x :: l, h => by
  simp only [List.map_cons, chunk, List.take_succ_cons, List.take_zero, List.drop_succ_cons, List.drop_zero]
  rw [chunk_i (by simpa using h)]
  rfl
theorem ev_stop {w s : Int} {vs : List Int} {e : Ex} {i : Nat} {a : List Int} (hi : i < e.kids.length) (ha : evEs w s vs (e.kids.take i) = some a) (hk : evE w s vs (eat e.kids i) = none) : evE w s vs e = none := by
 have h1 : evEs w s vs (e.kids.take (i + 1)) = none := by rw [evEs_take hi, ha]; simp only [hk]
 rw [evE_eq, evEs_none h1]
theorem exN_kid_at {e : Ex} {i : Nat} (h : exN e = true) (hi : i < e.kids.length) : exN (eat e.kids i) = true := by
 cases hk : exN (eat e.kids i) with
 | true => rfl
 | false => rw [exN_kid hi hk] at h; cases h
theorem op_one {o n : Int} {k : Nat} (h : opB o n k = true) : opN o = true := by
 unfold opB at h
 unfold opN
 rw [decide_eq_true_eq]
 repeat' split at h
 all_goals first | omega | cases h
theorem op_len {o n : Int} {k : Nat} (h : opB o n k = true) : k ≤ 2 := by
 unfold opB at h
 repeat' split at h
 all_goals first | (have := of_decide_eq_true h; omega) | cases h
theorem callOp {σ : Store} {K X : D → Store → Prop} {w s : Int} {vs : List Int} {o n : Int} {l : List Int} {t : Tok} (hvs : vs.length = 8) (hw : 0 ≤ w ∧ w ≤ 1000000) (hs : 0 ≤ s ∧ s ≤ 1000000) (h : opB o n l.length = true) (hl : ∀ v ∈ l, -1000000000 ≤ v ∧ v ≤ 1000000000)
  (hk : K (.int .i64 (opV w s vs o n l)) σ) : CallK Tryz.prog (opF o) [.ag (.int .i64 w :: .int .i64 s :: vs.map iD), .int .i64 n, .sl 1 (l.map irow) t] K X σ := by
 unfold opB at h
 split at h
 ·rename_i ho; subst ho; exact callP (on_w w s vs hvs n l t) hk
 split at h
 ·rename_i h1 ho
  have hb := of_decide_eq_true h
  rcases ho with rfl | rfl
  ·exact callP (op_w w s vs hvs n l t (by omega) hw hs) hk
  ·exact callP (oe_w w s vs hvs n l t (by omega) hw hs) hk
 split at h
 ·rename_i ho; subst ho; have hb := of_decide_eq_true h; exact callP (ov_w w s vs hvs n l t (by omega)) hk
 split at h
 ·rename_i ho; subst ho; have hb := of_decide_eq_true h; exact callP (ot_w w s vs hvs n l t (by omega) hl hb.1) hk
 split at h
 ·rename_i ho; subst ho; have hb := of_decide_eq_true h; exact callP (oo_w w s vs hvs n l t (by omega) hl hb.1) hk
 split at h
 ·rename_i ho
  have hb := of_decide_eq_true h
  rcases ho with rfl | rfl | rfl | rfl
  ·exact callP (os_w w s vs hvs n l t hl hb.1) hk
  ·exact callP (ol_w w s vs hvs n l t hl hb.1) hk
  ·exact callP (omn_w w s vs hvs n l t hb.1) hk
  ·exact callP (omx_w w s vs hvs n l t hb.1) hk
 ·cases h
attribute [local go_sem] List.length_map rowAt_n nrow rowAt_t trow rowAt_i irow
attribute [local go_sem] rowAt_e rowAt_tm rowAt_dc rowAt_ru tmrow dcrow rurow
attribute [local go_sem] iD_all iD_len rw2_0 rw2_1 rw1_0 Int.toNat_one
attribute [local go_sem] ops_get ops_look
theorem vr1_w (n : Int) : PCall Tryz.prog (.func 140) [.int .i64 n] (.bool (!okV n)) := by
 refine PCall.le ?_
 refine fn_ Tryz.func140 (by rfl) (by rfl) (rs := [.tmp 2]) (by rfl) (by simp [Tryz.f140]) ?_
 refine sr_ [0] [] [] fun κ ξ hκ hξ => ?_
 simp +decide only [go_sem]
 refine hκ _ _ ?_
 refine sr_ [2] [] [] fun κ ξ hκ hξ => ?_
 simp +decide only [go_sem]
 refine callF (vwi_w _ _ _) ?_
 simp +decide only [go_sem]
 refine hκ _ _ ?_
 refine rt ?_
 refine retE ?_
 simp +decide only [go_sem, resD, resV]
 rfl
theorem ifi_w (l : List Int) (t : Tok) : PCall Tryz.prog (.func 186) [.sl 1 (l.map irow) t, .fn (.func 140) [] []] (.int .i64 (fixI (fun x => !okV x) l)) := by
 refine PCall.ok fun hok => ?_
 simp only [okAll, D.ok, okRows, and_true, true_and, lim_eq, inR_i64', inR_i32', inR_u8', inR_u16', inR_u64'] at hok
 obtain ⟨hl, hr⟩ := hok; rw [List.length_map] at hl
 refine PCall.le ?_
 refine fn_ Tryz.func186 (by rfl) (by rfl) (rs := [.tmp 4]) (by rfl) (by simp [Tryz.f186]) ?_
 refine sr_ [0, 1] [] [] fun κ ξ hκ hξ => ?_
 simp +decide only [go_sem]
 refine hκ _ _ ?_
 refine sq ?_
 refine sr_ [0, 1, 7, 8] [] [] fun κ ξ hκ hξ => ?_
 simp +decide only [go_sem]
 refine hκ _ _ ?_
 refine bl ?_
 refine lp (α := Nat) (fun i => mk [(0, .sl 1 (l.map irow) t), (1, .fn (.func 140) [] []), (7, .int .i64 l.length), (8, .int .i64 i)]) (fun _ => []) (fun i => i ≤ l.length ∧ ∀ j, j < i → okV (iat l j) = true) (fun i => l.length - i) 0 ⟨⟨by omega, by intro j hj; omega⟩, EnvLe.of_eq rfl, .refl _⟩ ?_
 rintro i ⟨hi, hj⟩
 refine sr_ [0, 1, 7, 8, 9] [] [] fun κ ξ hκ hξ => ?_
 simp +decide only [go_sem]
 refine hκ _ _ ?_
 refine sq ?_
 refine cd_ (fun c0 => ?_) (fun c0 => ?_)
 ·try simp only [go_sem] at c0
  refine sk ?_
  refine sq ?_
  refine bl ?_
  refine sr_ [0, 1, 5, 7, 8] [] [] fun κ ξ hκ hξ => ?_
  simp +decide only [go_sem, c0]
  refine hκ _ _ ?_
  refine sr_ [0, 1, 5, 7, 8, 16] [] [] fun κ ξ hκ hξ => ?_
  simp +decide only [go_sem, c0]
  repeat with_reducible refine an_ ?_
  refine callF (vr1_w _) ?_
  simp +decide only [go_sem]
  refine hκ _ _ ?_
  refine cd_ (fun c1 => ?_) (fun c1 => ?_)
  ·try simp only [go_sem] at c1
   refine sr_ [4] [] [] fun κ ξ hκ hξ => ?_
   simp +decide only [go_sem, c1]
   refine hκ _ _ ?_
   refine rt ?_
   refine retE ?_
   simp +decide only [go_sem, resD, resV, c0, c1]
   congr 1
   rw [fixI_some (p := fun x => !okV x) (d := 0) (i := i) (by omega) (by simpa [iat] using c1) fun j h => by simpa [iat] using hj j h]
  ·try simp only [go_sem] at c1
   refine sk ?_
   refine rr_ [0, 1, 7, 8] [] [] fun κ ξ hκ hξ => ?_
   simp +decide only [go_sem, c1]
   refine hκ _ _ ?_
   refine ⟨i + 1, ⟨⟨by omega, ?_⟩, by omega⟩, EnvLe.of_eq (by rw [w64 (by omega)]; rfl), List.nil_sublist _⟩
   intro j h
   rcases Nat.lt_succ_iff_lt_or_eq.1 h with h | rfl
   ·exact hj j h
   ·first | assumption | simpa using c1
 ·try simp only [go_sem] at c0
  refine ex ?_
  refine sr_ [4] [] [] fun κ ξ hκ hξ => ?_
  simp +decide only [go_sem, c0]
  refine hκ _ _ ?_
  refine rt ?_
  refine retE ?_
  simp +decide only [go_sem, resD, resV, c0]
  congr 1
  rw [fixI_none (p := fun x => !okV x) (d := 0) fun j h => by simpa [iat] using hj j (by omega)]
theorem cfi_w (l : List Int) (t : Tok) : PCall Tryz.prog (.func 141) [.sl 1 (l.map irow) t, .fn (.func 140) [] []] (.bool (!l.all okV)) := by
 refine PCall.le ?_
 refine fn_ Tryz.func141 (by rfl) (by rfl) (rs := [.tmp 4]) (by rfl) (by simp [Tryz.f141]) ?_
 refine sr_ [0, 1] [] [] fun κ ξ hκ hξ => ?_
 simp +decide only [go_sem]
 refine hκ _ _ ?_
 refine sr_ [4] [] [] fun κ ξ hκ hξ => ?_
 simp +decide only [go_sem]
 refine callF (ifi_w _ _) ?_
 simp +decide only [go_sem]
 refine hκ _ _ ?_
 refine rt ?_
 refine retE ?_
 simp +decide only [go_sem, resD, resV]
 all_goals congr 1
 all_goals exact fix_all _ 0 _
theorem vri_w (w s : Int) (vs : List Int) (hvs : vs.length = 8) : PCall Tryz.prog (.func 91) [.ag (.int .i64 w :: .int .i64 s :: vs.map iD)] (.bool (decide (50 ≤ s ∧ s ≤ 300) && vs.all okV)) := by
 have ht8 : vs.take 8 = vs := List.take_of_length_le (by omega)
 have hch := chunk_i hvs
 refine PCall.le ?_
 refine fn_ Tryz.func91 (by rfl) (by rfl) (rs := [.tmp 2]) (by rfl) (by simp [Tryz.f91]) ?_
 refine sr_ [1] [1] [] fun κ ξ hκ hξ => ?_
 simp +decide only [go_sem]
 refine hκ _ _ ?_
 refine sr_ [1, 3] [] [] fun κ ξ hκ hξ => ?_
 simp +decide only [go_sem]
 refine hκ _ _ ?_
 refine sr_ [2] [] [(3, 7)] fun κ ξ hκ hξ => ?_
 simp +decide only [go_sem]
 repeat with_reducible refine an_ ?_
 refine callF (vwi_w _ _ _) ?_
 simp +decide only [go_sem, ht8, ↓hch, Int.toNat_natCast]
 repeat with_reducible refine an_ ?_
 refine vo_gc ?_
 simp +decide only [go_sem]
 refine gcF (cfi_w _ _) ?_
 simp +decide only [go_sem]
 refine hκ _ _ ?_
 refine rt ?_
 refine retE ?_
 simp +decide only [go_sem, resD, resV, ht8, ↓hch, Int.toNat_natCast]
 rw [Bool.not_not]
theorem val_s (w s : Int) (vs : List Int) (hvs : vs.length = 8) (b : Nat) (hw : 0 ≤ w ∧ w ≤ 1000000) (hs : 0 ≤ s ∧ s ≤ 1000000) (e : Ex) (hN : exN e = true) (ih : ∀ k : Ex, exS k < exS e → exN k = true → ACall Tryz.prog (.func 143) [.ag (.int .i64 w :: .int .i64 s :: vs.map iD), .ag [.int .i64 k.op, .int .i64 k.num, .sl 3 (k.kids.map erow) .no], .mp b] [(b, .map opsE)] (fun r σ' => σ' = [(b, .map opsE)] ∧ (∀ v, evE w s vs k = some v → r = .ret (.int .i64 v)) ∧ (evE w s vs k = none → r = .pan missD))) : ACall Tryz.prog (.func 143) [.ag (.int .i64 w :: .int .i64 s :: vs.map iD), .ag [.int .i64 e.op, .int .i64 e.num, .sl 3 (e.kids.map erow) .no], .mp b] [(b, .map opsE)] (fun r σ' => σ' = [(b, .map opsE)] ∧ (∀ v, evE w s vs e = some v → r = .ret (.int .i64 v)) ∧ (evE w s vs e = none → r = .pan missD)) := by
 refine ACall.ok fun hok => ?_
 simp only [okAll, D.ok, okRows, and_true, true_and, lim_eq, inR_i64', inR_i32', inR_u8', inR_u16', inR_u64'] at hok
 obtain ⟨_, h1, h2, hl, hr⟩ := hok; rw [List.length_map] at hl
 have ht8 : vs.take 8 = vs := List.take_of_length_le (by omega)
 have hNe := exN_eq e
 rw [hN] at hNe
 have hopB : opB e.op e.num e.kids.length = true := by cases h : opB e.op e.num e.kids.length <;> simp [h] at hNe ⊢
 have hopn := op_one hopB
 have hk2 := op_len hopB
 refine fn_ Tryz.func143 (by rfl) (by rfl) (rs := [.tmp 6]) (by rfl) (by simp [Tryz.f143]) ?_
 refine sr_ [2, 3, 4] [3, 4] [] fun κ ξ hκ hξ => ?_
 simp +decide only [go_sem]
 refine hκ _ _ ?_
 refine sr_ [2, 3, 4, 7] [] [] fun κ ξ hκ hξ => ?_
 simp +decide only [go_sem]
 refine hκ _ _ ?_
 refine sq ?_
 refine sr_ [2, 3, 4, 7, 12, 13, 14] [] [] fun κ ξ hκ hξ => ?_
 simp +decide only [go_sem]
 refine hκ _ _ ?_
 refine bl ?_
 refine lp (α := Nat × List Int × Option (Nat × Nat)) (fun y => mk [(2, .mp b), (3, .el (.int .i64 w :: .int .i64 s :: vs.map iD)), (4, .el [.int .i64 e.op, .int .i64 e.num, .sl 3 (e.kids.map erow) .no]), (7, apD 1 (y.2.1.map irow) y.2.2), (12, .sl 3 (e.kids.map erow) .no), (13, .int .i64 e.kids.length), (14, .int .i64 y.1)]) (fun y => apS 1 y.2.1.length y.2.2 ++ [(b, .map opsE)]) (fun y => y.1 ≤ e.kids.length ∧ evEs w s vs (e.kids.take y.1) = some y.2.1 ∧ apOK (y.2.1.map irow) y.2.2 ∧ apFr y.2.2 [(b, .map opsE)]) (fun y => e.kids.length - y.1) (0, [], none) ⟨⟨by simp only; omega, by simp [evEs], fun _ => rfl, apFr_none _⟩, EnvLe.of_eq rfl, .refl _⟩ ?_
 rintro ⟨i, a, o⟩ ⟨hi, ha, ho, hfr⟩
 simp only at hi ha ho hfr
 refine sr_ [2, 3, 4, 7, 12, 13, 14, 15] [] [] fun κ ξ hκ hξ => ?_
 simp +decide only [go_sem]
 refine hκ _ _ ?_
 refine sq ?_
 refine cd_ (fun c0 => ?_) (fun c0 => ?_)
 ·simp only [go_sem] at c0
  refine sk ?_
  refine sq ?_
  refine bl ?_
  refine srz_ [(9, [])] [2, 3, 4, 7, 9, 12, 13, 14] [] [] fun κ ξ hκ hξ => ?_
  simp +decide only [go_sem, c0]
  repeat with_reducible refine an_ ?_
  intro b9 hb9
  refine hκ _ _ ?_
  refine rr_ [2, 3, 4, 7, 12, 13, 14] [] [] fun κ ξ hκ hξ => ?_
  simp +decide only [go_sem, ht8]
  repeat with_reducible refine an_ ?_
  refine callA ((ih (eat e.kids i) (kid_lt (by omega)) (exN_kid_at hN (by omega))).frameL (apS 1 a.length o)) ?_ (by
    rintro d σ' ⟨σ1, rfl, rfl, h1, h2⟩
    refine hξ _ _ ?_
    have hkn : evE w s vs (eat e.kids i) = none := by
      cases hv : evE w s vs (eat e.kids i) with
      | none => rfl
      | some v => cases h1 v hv
    have hd := h2 hkn
    cases hd
    have hst := ev_stop (by omega) ha hkn
    exact ⟨_, List.sublist_append_right _ _, rfl, fun v hv => (by rw [hst] at hv; cases hv), fun _ => rfl⟩)
  rintro d σ' ⟨σ1, rfl, rfl, h1, h2⟩
  obtain ⟨v, hv, rfl⟩ : ∃ v, evE w s vs (eat e.kids i) = some v ∧ d = .int .i64 v := by
   cases hv : evE w s vs (eat e.kids i) with
   | none => cases h2 hv
   | some v => cases h1 v hv; exact ⟨v, rfl, rfl⟩
  simp +decide only [go_sem]
  refine napp_growN (o := o) (rows := a.map irow) (ρ := [(b, _)]) ho hfr (List.length_map ..) rfl rfl (by simp +decide only [go_sem, Option.isSome_some]) tf220 tf221 tf36 (by refine ⟨⟨rfl, by decide, by decide⟩, by simp +decide only [go_sem], by simp, ?_⟩; have := evEs_len ha; rw [List.length_take] at this; simp [capB]; omega) ?_; intro b24 c24 hb24
  simp +decide only [go_sem]
  refine hκ _ _ ?_
  refine rr_ [2, 3, 4, 7, 12, 13, 14] [] [] fun κ ξ hκ hξ => ?_
  simp +decide only [go_sem]
  refine hκ _ _ ?_
  refine ⟨(i + 1, a ++ [v], some (b24, c24)), ⟨⟨by simp only; omega, by simp only; rw [evEs_take (by omega), ha]; simp only [hv], (fun h => by cases h), apFr_some hb24⟩, by simp only; omega⟩, EnvLe.of_eq ?_, ?_⟩
  ·rw [w64 (n := (i : Int) + 1) (by omega), List.map_append]; rfl
  ·rw [List.length_append]; exact .refl _
 ·simp only [go_sem] at c0
  obtain rfl : i = e.kids.length := by omega
  rw [List.take_length] at ha
  refine weak (mk [(7, apD 1 (a.map irow) o), (2, .mp b), (3, .el (.int .i64 w :: .int .i64 s :: vs.map iD)), (4, .el [.int .i64 e.op, .int .i64 e.num, .sl 3 (e.kids.map erow) .no])]) (EnvLe.of_l ⟨rfl, rfl, rfl, rfl, trivial⟩) (σ' := [(b, .map opsE)]) (List.sublist_append_right _ _) ?_
  refine weak (mk [(7, .sl 1 (a.map irow) .no), (2, .mp b), (3, .el (.int .i64 w :: .int .i64 s :: vs.map iD)), (4, .el [.int .i64 e.op, .int .i64 e.num, .sl 3 (e.kids.map erow) .no])]) (EnvLe.cons (apD_le 1 ho) (EnvLe.refl _)) (.refl _) ?_
  refine ex ?_
  refine sr_ [10] [] [] fun κ ξ hκ hξ => ?_
  simp +decide only [go_sem, ht8, hopn]
  repeat with_reducible refine an_ ?_
  refine callOp hvs hw hs (by rw [evEs_len ha]; exact hopB) (evEs_ok ha) ?_
  simp +decide only [go_sem]
  refine hκ _ _ ?_
  refine sq ?_
  refine sr_ [10, 37] [] [] fun κ ξ hκ hξ => ?_
  simp +decide only [go_sem]
  refine callF (vwi_w _ _ _) ?_
  simp +decide only [go_sem]
  refine hκ _ _ ?_
  refine cd_ (fun c1 => ?_) (fun c1 => ?_)
  ·simp only [go_sem] at c1
   refine rr_ [] [] [] fun κ ξ hκ hξ => ?_
   simp +decide only [go_sem, c1]
   refine hξ _ _ ?_
   have hst : evE w s vs e = none := by
    rw [evE_eq, ha]
    exact if_neg (by unfold okV; rw [decide_eq_true_eq]; exact c1)
   exact ⟨_, .refl _, rfl, fun v hv => (by rw [hst] at hv; cases hv), fun _ => rfl⟩
  ·simp only [go_sem] at c1
   refine sk ?_
   refine sr_ [6] [] [] fun κ ξ hκ hξ => ?_
   simp +decide only [go_sem, c1]
   refine hκ _ _ ?_
   refine rt ?_
   have hst : evE w s vs e = some (opV w s vs e.op e.num a) := by
    rw [evE_eq, ha]
    exact if_pos (by unfold okV; rw [decide_eq_true_eq]; exact c1)
   refine ret_ (σ' := [(b, .map opsE)]) ?_ (.refl _) ?_
   ·simp +decide only [go_sem, resD, resV]
   simp +decide only [go_sem, resD, resV]
   exact ⟨fun v hv => (by rw [hst] at hv; cases hv; rfl), fun hv => (by rw [hst] at hv; cases hv)⟩
theorem val_w (w s : Int) (vs : List Int) (hvs : vs.length = 8) (b : Nat) (hw : 0 ≤ w ∧ w ≤ 1000000) (hs : 0 ≤ s ∧ s ≤ 1000000) (e : Ex) (hN : exN e = true) : ACall Tryz.prog (.func 143) [.ag (.int .i64 w :: .int .i64 s :: vs.map iD), .ag [.int .i64 e.op, .int .i64 e.num, .sl 3 (e.kids.map erow) .no], .mp b] [(b, .map opsE)] (fun r σ' => σ' = [(b, .map opsE)] ∧ (∀ v, evE w s vs e = some v → r = .ret (.int .i64 v)) ∧ (evE w s vs e = none → r = .pan missD)) := by
 suffices h : ∀ n (e : Ex), exS e ≤ n → exN e = true → ACall Tryz.prog (.func 143) [.ag (.int .i64 w :: .int .i64 s :: vs.map iD), .ag [.int .i64 e.op, .int .i64 e.num, .sl 3 (e.kids.map erow) .no], .mp b] [(b, .map opsE)] (fun r σ' => σ' = [(b, .map opsE)] ∧ (∀ v, evE w s vs e = some v → r = .ret (.int .i64 v)) ∧ (evE w s vs e = none → r = .pan missD)) from h _ e (Nat.le_refl _) hN
 intro n
 induction n with
 | zero => intro e he; have := exS_pos e; omega
 | succ n ih => exact fun e he hN => val_s w s vs hvs b hw hs e hN fun k hk hkN => ih k (by omega) hkN
end
section
section
variable {P : Program} {M : Mem} {w : World} {σ : Store} {r : Option Nat} {nt : Nat} {ops : Array Oper} {imm : List Nat} {gt : List (Nat × Nat)}
theorem vop_agree {o : Oper} {env : Env} {κ : Env → Store → Prop} {X : D → Store → Prop} (h : vop P imm gt o env σ κ X) : vop P imm gt o env σ (fun env' σ' => κ env' σ' ∧ ∀ t, o.dst ≠ some t → env' t = env t) X := by
 have key : ∀ d t, o.dst ≠ some t → env.put o.dst d t = env t := fun d t ht => put_apart fun x hx e => ht (by rw [hx, e])
 unfold vop at h ⊢
 cases hq : quiet o.op with
 | true => simp only [hq, cond_true] at h ⊢; exact ⟨h.1, h.2, key _⟩
 | false => simp only [hq, cond_false] at h ⊢; exact nv_mono (fun d σ' hk => ⟨hk, key _⟩) h
theorem vops_soundX (hgt : GT ops gt) {Q : AE → Env → Store → Prop} (keep kx : List Nat) {env0 : Env} {M0 : Mem} {w0 : World} {σ0 : Store} {a0 : Act} {B : Nat × List Deferred} : ∀ (l : List Oper) (k : Nat), (∀ j, l[j]? = ops[k + j]?) → l.all (okOp nt) = true → (∀ o ∈ l, ∀ t ∈ kx, o.dst ≠ some t) → ∀ (env : Env) (σ : Store) (M : Mem) (w : World) (a : Act),
  vops P imm gt (fun env σ => Q .normal (prune keep env) σ) (fun d σ => Q (.pan d) (prune kx env0) σ) l env σ → (∀ t ∈ kx, env t = env0 t) →
  Conc M w σ → EnvR M nt env a → DefOK B σ0 w0 a0.defers → a.defers = a0.defers → Step M0 w0 σ0 M w σ → wpOpsIn (WF r) 0 P ops (rgPost M0 w0 σ0 nt B Q) (List.range' k l.length) a w
 | [], k, _, _, _, env, σ, M, w, a, h, _, hc, he, hd, hda, hs => by
  simp only [List.length_nil, List.range'_zero, wpOpsIn]
  exact ⟨M, _, σ, .normal, hs, hc, he.prune keep, hda ▸ hd.step hs, trivial, h⟩
 | o :: l, k, hl, hok, hkx, env, σ, M, w, a, h, hag, hc, he, hd, hda, hs => by
  have h0 : ops[k]? = some o := by simpa using (hl 0).symm
  simp only [List.all_cons, Bool.and_eq_true] at hok
  simp only [List.length_cons, List.range'_succ]
  rw [wpOpsIn_cons]
  unfold wpOpIn
  simp only [h0]
  refine vop_sound (r := r) hgt hc he hok.1 (vop_agree h) ?_ ?_
  ·intro M' w' σ' env' a' s1 c1 e1 d1 k1
   exact vops_soundX hgt keep kx l (k + 1) (fun j => by have := hl (j + 1); simpa [Nat.add_assoc, Nat.add_comm 1 j] using this) hok.2 (fun o' ho' => hkx o' (List.mem_cons_of_mem _ ho')) env' σ' M' w' a' k1.1
    (fun t ht => (k1.2 t (hkx o (List.mem_cons_self ..) t ht)).trans (hag t ht)) c1 e1 hd (d1.trans hda) (hs.trans s1)
  ·intro M' w' σ' d v s1 c1 r1 x1
   refine ⟨M', prune kx env0, σ', .pan d, hs.trans s1, c1, ?_, hda ▸ hd.step (hs.trans s1), ⟨v, rfl, r1⟩, x1⟩
   have e2 : prune kx env0 = prune kx env := by
    unfold prune
    congr 1
    exact List.map_congr_left fun t ht => by rw [hag t ht]
   rw [e2]
   exact (he.mono s1.le).prune kx
def kxOK (l : List Oper) (kx : List Nat) : Bool := l.all fun o => kx.all fun t => o.dst != some t
theorem rgX (kx keep imm : List Nat) (gt : List (Nat × Nat)) {id : Nat} {l : List Oper} {env : Env} {Q : AE → Env → Store → Prop}
  (h : ∀ (κ : Env → Store → Prop) (ξ : D → Store → Prop), (∀ env σ, Q .normal env σ → κ env σ) → (∀ d σ, Q (.pan d) (prune kx env) σ → ξ d σ) → vops P imm gt (fun env σ => κ (prune keep env) σ) ξ l env σ)
  (hok : rgOK nt l.toArray gt = true := by kernel_rfl) (hk : kxOK l kx = true := by kernel_rfl) : AWp P r nt (.region id l.toArray false) env σ Q := by
 intro M w a B hc he hd
 refine wpIn_region ?_
 unfold rgOK at hok
 simp only [Bool.and_eq_true] at hok
 have hkx : ∀ o ∈ l, ∀ t ∈ kx, o.dst ≠ some t := fun o ho t ht => by
  have := List.all_eq_true.1 (List.all_eq_true.1 hk o ho) t ht
  simpa using this
 have := vops_soundX (P := P) (r := r) (imm := imm) (ops := l.toArray) (Q := Q) (GT.of hok.2) keep kx l 0 (by simp) (by simpa using hok.1) hkx env σ M w a (h (fun env σ => Q .normal env σ) (fun d σ => Q (.pan d) (prune kx env) σ) (fun _ _ h => h) (fun _ _ h => h)) (fun _ _ => rfl) hc he hd rfl (Step.refl _ _ _)
 rw [List.range_eq_range', show l.toArray.size = l.length from by simp]
 exact this
def DCallR (P : Program) (fc : Nat) (ds : List D) (σ : Store) (Q : Store → Prop) : Prop := ∀ M w vs, Conc M w σ → RAll M ds vs →
 CallsDIn (WF none) 0 P fc (List.toArray vs) .returning w fun e u' w' => ∃ v M' σ', e = .returned v ∧ u' = .returning ∧ Step M w σ M' w' σ' ∧ Conc M' w' σ' ∧ Q σ'
def DCallP (P : Program) (fc : Nat) (ds : List D) (σ : Store) (d : D) (Q : Store → Prop) : Prop := ∀ M w vs x, Conc M w σ → RAll M ds vs → R M d x →
 CallsDIn (WF none) 0 P fc (List.toArray vs) (.panicking [{ v := x, recovered := false }]) w fun e u' w' => ∃ v M' σ', e = .returned v ∧ u' = .panicking [{ v := x, recovered := true }] ∧ Step M w σ M' w' σ' ∧ Conc M' w' σ' ∧ Q σ'
def endD (P : Program) (rs : List ResultVar) (Q : Res → Store → Prop) (env : Env) (σ' : Store) : Prop := (resD P σ' env rs).1 ∧ ∃ σ2 : Store, σ2.Sublist σ' ∧ Q (.ret (resD P σ' env rs).2) σ2
def defQ (P : Program) (fc : Nat) (ds : List D) (rs : List ResultVar) (Q : Res → Store → Prop) : AE → Env → Store → Prop
 | .normal, env, σ => DCallR P fc ds σ (endD P rs Q env)
 | .ret, env, σ => DCallR P fc ds σ (endD P rs Q env)
 | .pan d, env, σ => DCallP P fc ds σ d (endD P rs Q env)
 | _, _, _ => False
theorem leaves_marks' {fn : Func} {tmps : Array Value} {R' : Ending → World → Prop} {u : FrameMode} (rest : List Deferred) (hu : u ≠ .run) {M0 : Mem} {w0 : World} {σ0 : Store} {n : Nat} (hn0 : n ≤ w0.heap.size) : ∀ (Ds : List Nat) (M : Mem) (w : World) (σ : Store), Step M0 w0 σ0 M w σ → Conc M w σ → Ds.Nodup →
  (∀ D ∈ Ds, w0.heap.size ≤ D ∧ w.heap[D]? = some (.deferred (some [])) ∧ D ∉ σ.keys) →
  (∀ w', (∀ k, k < w0.heap.size → w'.heap[k]? = w.heap[k]?) → Step M0 w0 σ0 M w' σ → Conc M w' σ → LeavesInM (WF none) 0 P fn tmps R' rest u w') →
  LeavesInM (WF none) 0 P fn tmps R' ((Ds.map fun D => { target := .collected D, args := #[] }) ++ rest) u w
 | [], M, w, σ, hs, hc, _, _, h => h w (fun _ _ => rfl) hs hc
 | D :: Ds, M, w, σ, hs, hc, hn, hD, h => by
  simp only [List.nodup_cons] at hn
  obtain ⟨h1, h2, h3⟩ := hD D (by simp)
  have hlt : D < w.heap.size := (Array.getElem?_eq_some_iff.1 h2).1
  have hother : ∀ k, k ≠ D → (w.putObj D (.deferred none)).heap[k]? = w.heap[k]? := fun k hk => World.putObj_heap_other hk
  refine ⟨hu, .inl ⟨D, _, rfl, run_takeDeferred h2, ?_⟩⟩
  have hc' : Conc M (w.putObj D (.deferred none)) σ := by
   refine ⟨fun b o v hv => ?_, hc.nodup, fun b x hb => ?_⟩
   ·have hcell := hc.mem b o v hv
    have hne : b ≠ D := by
     intro e; subst e
     simp only [World.cell?, h2] at hcell
     cases hcell
    simp only [World.cell?, hother b hne]
    exact hcell
   ·have hne : b ≠ D := fun e => h3 (e ▸ List.mem_map_of_mem (f := Prod.fst) hb)
    exact (hc.box b x hb).mono (Mem.le.refl _) (fun _ _ h => h) (hother b hne)
  refine leaves_marks' rest hu hn0 Ds M _ σ ?_ hc' hn.2 (fun D' hD' => ?_) (fun w' hk hs' hc2 => h w' (fun k hk2 => (hk k hk2).trans (hother k (by omega))) hs' hc2)
  ·exact ⟨hs.le, hs.os, hs.tape, hs.output, (by rw [World.putObj_size]; exact hs.size), fun b hb hk => (hother b (fun e => by omega)).trans (hs.block b hb hk), hs.keys, hs.grow⟩
  ·obtain ⟨e1, e2, e3⟩ := hD D' (List.mem_cons_of_mem _ hD')
   exact ⟨e1, (hother D' (fun e => hn.1 (e ▸ hD'))).trans e2, e3⟩
theorem fnD {f fc i1 : Nat} {fn : Func} {c0 c1 : Code} {rs : List ResultVar} {args : List D} {Q : Res → Store → Prop} {xs : List Operand} {ts : Array TypeId} {T : TypeId} {pos : String} {aft : Array Edge}
  (hf : P.funcs[f]? = some fn) (hb : fn.body = some (.seq c0 (.seq (.region i1 #[⟨none, .defer ⟨.value (.func fc), xs.toArray, ts⟩, T, pos, aft, none⟩] false) c1))) (hname : (fn.name == "runtime.NumGoroutine") = false)
  (hres : fn.results = List.toArray rs) (hn : args.length ≤ fn.ntmps) (hcf : ∀ (w : World) (vs : Array Value), (callFunc fc vs).run P w = .ok (.enter fc vs) w)
  (h : AWp P none fn.ntmps c0 (mk (argEnv args 0)) σ (thenQ (fun env1 σ1 => AWp P none fn.ntmps c1 env1 σ1 (defQ P fc (xs.map (opd env1)) rs Q)) fun _ _ _ => False)) : ACall P (.func f) args σ Q := by
 intro M w vs hc hr
 have hlen := hr.length
 refine .inl ⟨callFunc_enter hf (by rw [hb]; rfl) hname _, ?_⟩
 have key : CallsIn (WF none) 0 P f (List.toArray vs) w fun e w' => ∃ M' σ' r, Step M w σ M' w' σ' ∧ Conc M' w' σ' ∧ ResR M' r e ∧ Q r σ' := by
  refine callsIn_of_wp_marks hf hb trivial ?_
  have he : EnvR M fn.ntmps (mk (argEnv args 0)) { tmps := List.toArray vs ++ Array.replicate (fn.ntmps - (List.toArray vs).size) undef, defers := [] } := by
   refine ⟨by simp; omega, fun i => argEnv_R args vs 0 i _ hr fun j v hj => ?_⟩
   have hjl := (List.getElem?_eq_some_iff.1 hj).1
   rw [Nat.zero_add, Array.getD_eq_getD_getElem?, Array.getElem?_append_left (by simpa using hjl)]
   simp [hj]
  refine wpIn_seq (wpIn_mono (h M w _ (w.heap.size, []) hc he (DefOK.nil (Nat.le_refl _))) ?_)
  rintro e a1 w1 ⟨M1, env1, σ1, ae, s1, c1', e1, d1, h5, h6⟩
  cases e with
  | exit i => cases ae <;> simp only [AER] at h5; exact h6.elim
  | goto i => cases ae <;> simp only [AER] at h5; exact h6.elim
  | ret => cases ae <;> simp only [AER] at h5; exact h6.elim
  | panic ch => cases ae <;> simp only [AER] at h5; exact h6.elim
  | outgrown => cases ae <;> simp only [AER] at h5
  | normal =>
  cases ae <;> simp only [AER] at h5
  have hds : RAll M1 (xs.map (opd env1)) (xs.map a1.eval) := RAll_map (opd_R e1) xs
  obtain ⟨dcall, hdc⟩ : ∃ d : Deferred, d = { target := .fn (.func fc) #[], args := List.toArray (xs.map a1.eval) } := ⟨_, rfl⟩
  refine wpIn_seq (wpIn_region ?_)
  have hrun : (execOp a1.eval ⟨none, .defer ⟨.value (.func fc), xs.toArray, ts⟩, T, pos, aft, none⟩).run P w1 = .ok (.defer dcall) w1 := by
   simp [execOp, resolve, Act.eval, Deferred.ofValue, hdc]
  show wpOpsIn (WF none) 0 P _ _ [0] a1 w1
  simp only [wpOpsIn, List.getElem?_toArray, List.getElem?_cons_zero]
  rw [if_pos (by simp [Region.wanted])]
  refine ⟨fun f _ => trivial, ?_⟩
  have hsem : (Oper.semAt (WF none).round a1.eval ⟨none, .defer ⟨.value (.func fc), xs.toArray, ts⟩, T, pos, aft, none⟩) = execOp a1.eval ⟨none, .defer ⟨.value (.func fc), xs.toArray, ts⟩, T, pos, aft, none⟩ := by
   rfl
  rw [hsem, hrun, Oper.uponIn_defer]
  have he2 : EnvR M1 fn.ntmps env1 ({ a1 with defers := dcall :: a1.defers }.put none undef) := e1
  refine wpIn_mono (h6 M1 w1 ({ a1 with defers := dcall :: a1.defers }.put none undef) (w1.heap.size, dcall :: a1.defers) c1' he2 (DefOK.base (Nat.le_refl _))) ?_
  rintro e a2 w2 ⟨M2, env2, σ2, ae, s2, c2, e2, ⟨_, Ds, hd1, hd2, hd3⟩, h7, h8⟩
  -- the last marks, behind the deferred call
  have tail : ∀ (w3 w4 : World) (M4 : Mem) (σ4 : Store), (∀ k, k < w1.heap.size → w3.heap[k]? = w2.heap[k]?) → Step M1 w1 σ1 M2 w3 σ2 → Step M2 w3 σ2 M4 w4 σ4 → Conc M4 w4 σ4 → endD P rs Q env2 σ4 →
    LeavesInM (WF none) 0 P fn a2.tmps (fun e w' => ∃ M' σ' r, Step M w σ M' w' σ' ∧ Conc M' w' σ' ∧ ResR M' r e ∧ Q r σ') a1.defers .returning w4 := by
   intro w3 w4 M4 σ4 hk3 st3 st4 c4 ⟨hr1, σ5, hsub, hq⟩
   obtain ⟨_, Ds0, g1, g2, g3⟩ := d1.step (st3.trans st4)
   rw [g1, List.append_nil]
   refine leaves_marks (by simp) Ds0 M4 w4 σ4 ((s1.trans st3).trans st4) c4 g2 g3 fun w5 st5 c5 => ?_
   obtain ⟨v, r1, r2⟩ := run_results (P := P) (w := w5) hres c5 (e2.mono st4.le) hr1
   exact ⟨v, r1, M4, σ5, .ret _, st5.sub hsub, c5.sub hsub, r2, hq⟩
  have fin1 : DCallR P fc (xs.map (opd env1)) σ2 (endD P rs Q env2) → LeavesInM (WF none) 0 P fn a2.tmps (fun e w' => ∃ M' σ' r, Step M w σ M' w' σ' ∧ Conc M' w' σ' ∧ ResR M' r e ∧ Q r σ') a2.defers .returning w2 := by
   intro hD
   rw [hd1]
   refine leaves_marks' (dcall :: a1.defers) (by simp) (Nat.le_refl _) Ds M2 w2 σ2 s2 c2 hd2 hd3 fun w3 hk3 st3 c3 => ?_
   refine ⟨by simp, .inr ⟨(by intro h; cases h), _, _, fc, List.toArray (xs.map a1.eval), by rw [hdc], ?_, fun g _ => trivial, ?_⟩⟩
   ·rw [hdc]
    simp only [invoke]
    have := hcf w3 (List.toArray (xs.map a1.eval) ++ #[])
    simpa using this
   ·have hc3 := hD M2 w3 (xs.map a1.eval) c3 (RAll.mono s2.le _ _ hds)
    refine CallsDIn.mono hc3 ?_
    rintro e u' w4 ⟨v, M4, σ4, rfl, rfl, st4, c4, hend⟩
    exact tail w3 w4 M4 σ4 hk3 st3 st4 c4 hend
  cases e with
  | normal => cases ae <;> simp only [AER] at h7; exact fin1 h8
  | ret => cases ae <;> simp only [AER] at h7; exact fin1 h8
  | exit i => cases ae <;> simp only [AER] at h7; exact h8.elim
  | goto i => cases ae <;> simp only [AER] at h7; exact h8.elim
  | outgrown => cases ae <;> simp only [AER] at h7
  | panic ch =>
   cases ch with
   | nil => cases ae <;> simp only [AER] at h7
   | cons p0 ps =>
   cases ps with
   | cons _ _ => cases ae <;> simp only [AER] at h7
   | nil =>
   cases ae <;> simp only [AER] at h7
   obtain ⟨x, rfl, hx⟩ := h7
   show LeavesInM _ _ _ _ _ _ a2.defers (.panicking _) w2
   rw [hd1]
   refine leaves_marks' (dcall :: a1.defers) (by simp) (Nat.le_refl _) Ds M2 w2 σ2 s2 c2 hd2 hd3 fun w3 hk3 st3 c3 => ?_
   refine ⟨by simp, .inr ⟨(by intro h; cases h), _, _, fc, List.toArray (xs.map a1.eval), by rw [hdc], ?_, fun g _ => trivial, ?_⟩⟩
   ·rw [hdc]
    simp only [invoke]
    have := hcf w3 (List.toArray (xs.map a1.eval) ++ #[])
    simpa using this
   ·have hc3 := h8 M2 w3 (xs.map a1.eval) x c3 (RAll.mono s2.le _ _ hds) hx
    refine CallsDIn.mono hc3 ?_
    rintro e u' w4 ⟨v, M4, σ4, rfl, rfl, st4, c4, hend⟩
    exact tail w3 w4 M4 σ4 hk3 st3 st4 c4 hend
 exact key
theorem recover_then {id t : Nat} {fn : Func} {c : Code} {ts : Array TypeId} {T : TypeId} {pos : String} {aft : Array Edge} {c₀ : Frame} {cs : List Frame} {R : Ending → FrameMode → World → Prop} {a0 : Act} {w : World} {x : Value}
  (hu : c₀.mode = .panicking [{ v := x, recovered := false }])
  (h : c.wpIn (WF none) 0 P (fun e a' w' => bodyPostS P fn c₀ cs R e a' ({ c₀ with mode := .panicking [{ v := x, recovered := true }] } :: cs) w') (a0.put (some t) x) w) :
  (Code.seq (.region id #[⟨some t, .call ⟨.builtin .recover, #[], ts⟩, T, pos, aft, none⟩] false) c).wpSIn (WF none) 0 P (bodyPostS P fn c₀ cs R) a0 (c₀ :: cs) w := by
 apply wpSIn_seq
 apply wpSIn_region
 show wpOpsSIn (WF none) 0 P _ _ [0] a0 (c₀ :: cs) w
 simp only [wpOpsSIn, List.getElem?_toArray, List.getElem?_cons_zero]
 refine ⟨fun f _ => trivial, ?_⟩
 rw [if_pos (by simp [Region.wanted])]
 have hrun : (execOp a0.eval ⟨some t, .call ⟨.builtin .recover, #[], ts⟩, T, pos, aft, none⟩).run P w = .ok .recover w := rfl
 rw [hrun]
 have hrec : recoverD (c₀ :: cs) = some (x, { c₀ with mode := .panicking [{ v := x, recovered := true }] } :: cs) := by simp [recoverD, hu]
 simp only [hrec]
 exact wpSIn_of_wpIn rfl h
theorem recover_none {id t : Nat} {fn : Func} {c : Code} {ts : Array TypeId} {T : TypeId} {pos : String} {aft : Array Edge} {c₀ : Frame} {cs : List Frame} {R : Ending → FrameMode → World → Prop} {a0 : Act} {w : World}
  (hu : c₀.mode = .returning)
  (h : c.wpIn (WF none) 0 P (fun e a' w' => bodyPostS P fn c₀ cs R e a' (c₀ :: cs) w') (a0.put (some t) .nilIface) w) :
  (Code.seq (.region id #[⟨some t, .call ⟨.builtin .recover, #[], ts⟩, T, pos, aft, none⟩] false) c).wpSIn (WF none) 0 P (bodyPostS P fn c₀ cs R) a0 (c₀ :: cs) w := by
 apply wpSIn_seq
 apply wpSIn_region
 show wpOpsSIn (WF none) 0 P _ _ [0] a0 (c₀ :: cs) w
 simp only [wpOpsSIn, List.getElem?_toArray, List.getElem?_cons_zero]
 refine ⟨fun f _ => trivial, ?_⟩
 rw [if_pos (by simp [Region.wanted])]
 have hrun : (execOp a0.eval ⟨some t, .call ⟨.builtin .recover, #[], ts⟩, T, pos, aft, none⟩).run P w = .ok .recover w := rfl
 rw [hrun]
 have hrec : recoverD (c₀ :: cs) = none := by simp [recoverD, hu]
 simp only [hrec]
 exact wpSIn_of_wpIn rfl h
theorem Conc.set1 {b : Nat} {c d : D} {v : Value} (hc : Conc M w σ) (hg : σ.get b = some (.cells [c])) (hd : R M d v) (hcell : d.isCell = true) :
  Conc M (w.setCell ⟨b, 0, none⟩ v) (σ.upd b (.cells [d])) ∧ Step M w σ M (w.setCell ⟨b, 0, none⟩ v) (σ.upd b (.cells [d])) := by
 obtain ⟨⟨vs, T, h1, h2, h3⟩, h4⟩ := hc.box _ _ (Store.mem_of_get hg)
 have hw := Wr.setCell w b 0 v
 match vs, h2 with
 | [y], h2 => exact hc.turn (Store.get_mem hg) hw.size hw.os hw.tape hw.output hw.other (fun o v hm => by rw [h4 o] at hm; cases hm) ⟨⟨[v], T, setCell_heap h1 v, ⟨hd, trivial⟩, by simpa using hcell⟩, h4⟩
 | [], h2 => exact absurd h2 (by simp [RAll])
 | _ :: _ :: _, h2 => exact absurd h2 (by simp [RAll])
theorem Conc.cell1 {b : Nat} {c : D} (hc : Conc M w σ) (hg : σ.get b = some (.cells [c])) : (∃ y, w.cell? ⟨b, 0, none⟩ = some y) ∧ w.frozen? ⟨b, 0, none⟩ = false ∧ b < w.heap.size := by
 obtain ⟨⟨vs, T, h1, h2, h3⟩, h4⟩ := hc.box _ _ (Store.mem_of_get hg)
 refine ⟨?_, by simp [World.frozen?, h1], hc.lt (Store.get_mem hg)⟩
 match vs, h2 with
 | [y], h2 => exact ⟨y, by simp [World.cell?, h1]⟩
 | [], h2 => exact absurd h2 (by simp [RAll])
 | _ :: _ :: _, h2 => exact absurd h2 (by simp [RAll])
end
end
section
@[go_sem] theorem as238 (v : Value) (W : World) : (Instr.typeAssert (.iface 238 v) 20 238 true).run Tryz.prog W = .ok (.tuple #[v, .bool true]) W := by kernel_rfl
set_option maxHeartbeats 4000000 in
set_option maxRecDepth 1000000 in
theorem caught_pan (b c : Nat) (x y : Value) (w : World) (hbc : b ≠ c) (hc : w.cell? ⟨b, 0, none⟩ = some x) (hz : w.frozen? ⟨b, 0, none⟩ = false) (hc2 : w.cell? ⟨c, 0, none⟩ = some y) (hz2 : w.frozen? ⟨c, 0, none⟩ = false) (hb : b < w.heap.size) (hcs : c < w.heap.size) :
  CallsDIn (WF none) 0 Tryz.prog 142 #[.pointer (some ⟨b, 0, none⟩), .pointer (some ⟨c, 0, none⟩)] (.panicking [{ v := .iface 238 (.agg #[]), recovered := false }]) w fun e u' w' =>
   e = .returned (.tuple #[]) ∧ u' = .panicking [{ v := .iface 238 (.agg #[]), recovered := true }] ∧ w' = ((w.setCell ⟨b, 0, none⟩ (.int .i64 0)).setCell ⟨c, 0, none⟩ (.int .i64 3)).alloc (.cells #[] 238) := by
 have k1 : (w.alloc (.cells #[] 238)).cell? ⟨b, 0, none⟩ = some x := (World.cell?_alloc_lt w _ _ hb).trans hc
 have k2 : (w.alloc (.cells #[] 238)).frozen? ⟨b, 0, none⟩ = false := (World.frozen?_alloc_old w _ _ (Nat.ne_of_lt hb)).trans hz
 have k3 : ((w.alloc (.cells #[] 238)).setCell ⟨b, 0, none⟩ (.int .i64 0)).cell? ⟨c, 0, none⟩ = some y := by
  rw [World.cell?_setCell_other _ _ _ _ (by intro h; simp only [Addr.mk.injEq] at h; omega), World.cell?_alloc_lt w _ _ hcs, hc2]
 have k4 : ((w.alloc (.cells #[] 238)).setCell ⟨b, 0, none⟩ (.int .i64 0)).frozen? ⟨c, 0, none⟩ = false := by
  rw [World.frozen?_setCell, World.frozen?_alloc_old w _ _ (Nat.ne_of_lt hcs), hz2]
 refine callsDIn_of_wpSIn Tryz.func142 rfl trivial fun c₀ cs hu => recover_then hu ?_
 refine wpIn_block ?_
 gi_wp2_with fail
 simp [bodyPostS, results, Tryz.results142]
set_option maxHeartbeats 4000000 in
set_option maxRecDepth 1000000 in
theorem caught_idle (b c : Nat) (w : World) : CallsDIn (WF none) 0 Tryz.prog 142 #[.pointer (some ⟨b, 0, none⟩), .pointer (some ⟨c, 0, none⟩)] .returning w fun e u' w' =>
   e = .returned (.tuple #[]) ∧ u' = .returning ∧ w' = w := by
 refine callsDIn_of_wpSIn Tryz.func142 rfl trivial fun c₀ cs hu => recover_none hu ?_
 refine wpIn_block ?_
 gi_wp2_with fail
 cases c₀
 simp_all [bodyPostS, results, Tryz.results142]
theorem caught_R {b c : Nat} {σ : Store} {Q : Store → Prop} (h : Q σ) : DCallR Tryz.prog 142 [.ptr b 0, .ptr c 0] σ Q := by
 intro M w vs hc hr
 match vs, hr with
 | [v1, v2], hr =>
  simp only [RAll, R] at hr
  obtain ⟨rfl, rfl, -⟩ := hr
  refine (caught_idle b c w).mono ?_
  rintro e u' w' ⟨rfl, rfl, rfl⟩
  exact ⟨_, M, σ, rfl, rfl, Step.refl M w' σ, hc, h⟩
 | [], hr => exact absurd hr (by simp [RAll])
 | [_], hr => exact absurd hr (by simp [RAll])
 | _ :: _ :: _ :: _, hr => exact absurd hr (by simp [RAll])
theorem caught_P {b c : Nat} {x y : D} {σ : Store} {Q : Store → Prop} (hbc : b ≠ c) (hx : σ.get b = some (.cells [x])) (hy : (σ.upd b (.cells [.int .i64 0])).get c = some (.cells [y])) (hy0 : σ.get c = some (.cells [y])) (h : Q ((σ.upd b (.cells [.int .i64 0])).upd c (.cells [.int .i64 3]))) : DCallP Tryz.prog 142 [.ptr b 0, .ptr c 0] σ missD Q := by
 intro M w vs u hc hr hu
 match vs, hr with
 | [v1, v2], hr =>
  simp only [RAll, R] at hr
  obtain ⟨rfl, rfl, -⟩ := hr
  obtain ⟨v, rfl, h2⟩ := hu
  simp only [R] at h2
  obtain ⟨us, rfl, h3⟩ := h2
  match us, h3 with
  | [], _ =>
   obtain ⟨⟨x', e1⟩, e2, e3⟩ := hc.cell1 hx
   obtain ⟨⟨y', e4⟩, e5, e6⟩ := hc.cell1 hy0
   refine (caught_pan b c x' y' w hbc e1 e2 e4 e5 e3 e6).mono ?_
   rintro e u' w' ⟨rfl, rfl, rfl⟩
   obtain ⟨c1, s1⟩ := hc.set1 (d := .int .i64 0) (v := .int .i64 0) hx (by simp [R, inR_i64']) rfl
   obtain ⟨c2, s2⟩ := c1.set1 (d := .int .i64 3) (v := .int .i64 3) hy (by simp [R, inR_i64']) rfl
   obtain ⟨c3, s3⟩ := c2.allocOther (.cells #[] 238)
   exact ⟨_, M, _, rfl, rfl, (s1.trans s2).trans s3, c3, h⟩
  | _ :: _, h3 => exact absurd h3 (by simp [RAll])
 | [], hr => exact absurd hr (by simp [RAll])
 | [_], hr => exact absurd hr (by simp [RAll])
 | _ :: _ :: _ :: _, hr => exact absurd hr (by simp [RAll])
end
section
attribute [local go_sem] List.length_map rowAt_n nrow rowAt_t trow rowAt_i irow
attribute [local go_sem] rowAt_e rowAt_tm rowAt_dc rowAt_ru tmrow dcrow rurow
attribute [local go_sem] iD_all iD_len rw2_0 rw2_1 rw1_0 Int.toNat_one
attribute [local go_sem] ops_get ops_look
theorem eval_w (w s : Int) (vs : List Int) (hvs : vs.length = 8) (b : Nat) (hw : 0 ≤ w ∧ w ≤ 1000000) (hs : 0 ≤ s ∧ s ≤ 1000000) (e : Ex) (hN : exN e = true) : ACall Tryz.prog (.func 93) [.ag (.int .i64 w :: .int .i64 s :: vs.map iD), .ag [.int .i64 e.op, .int .i64 e.num, .sl 3 (e.kids.map erow) .no], .mp b] [(b, .map opsE)] (fun r σ' => σ' = [(b, .map opsE)] ∧ r = .ret (.tup [.int .i64 ((evE w s vs e).getD 0), .int .i64 (if (evE w s vs e).isSome = true then 0 else 3)])) := by
 have ht8 : vs.take 8 = vs := List.take_of_length_le (by omega)
 refine fnD Tryz.func93 (by rfl) (by rfl) (rs := [.cell 6 3, .cell 7 34]) (by rfl) (by simp [Tryz.f93]) (fun w vs => callFunc_enter Tryz.func142 (by rfl) (by rfl) vs) ?_
 refine rr_ [2, 3, 4, 6, 7] [3, 4] [] fun κ ξ hκ hξ => ?_
 simp +decide only [go_sem]
 intro b6 hb6
 intro b7 hb7
 refine hκ _ _ ?_
 refine sq ?_
 have h76 : b7 ≠ b6 := fun h => hb7.1 h.symm
 have h67 : b6 ≠ b7 := fun h => h76 h.symm
 refine rgX [6, 7] [6, 7] [] [] fun κ ξ hκ hξ => ?_
 simp +decide only [go_sem, ht8]
 repeat with_reducible refine an_ ?_
 refine callA ((val_w w s vs hvs b hw hs e hN).frameL [(b7, .cells [.int .i64 0]), (b6, .cells [.int .i64 0])]) ?_ (by
   rintro d σ' ⟨σ1, rfl, rfl, h1, h2⟩
   refine hξ _ _ ?_
   have hkn : evE w s vs e = none := by
     cases hv : evE w s vs e with
     | none => rfl
     | some v => cases h1 v hv
   have hd := h2 hkn
   cases hd
   refine caught_P (x := .int .i64 0) (y := .int .i64 0) h67 (by simp [Store.get, h67, h76]) (by simp [Store.get, Store.upd, h67, h76]) (by simp [Store.get, h67, h76]) ?_
   simp +decide only [go_sem, endD, resD, resV, List.cons_append, List.nil_append, Store.upd, Store.get, h67, h76, ↓reduceIte]
   exact ⟨_, ((List.Sublist.refl _).cons _).cons _, rfl, by rw [hkn]; rfl⟩)
 rintro d σ' ⟨σ1, rfl, rfl, h1, h2⟩
 obtain ⟨v, hv, rfl⟩ : ∃ v, evE w s vs e = some v ∧ d = .int .i64 v := by
  cases hv : evE w s vs e with
  | none => cases h2 hv
  | some v => cases h1 v hv; exact ⟨v, rfl, rfl⟩
 simp +decide only [go_sem, hb7, h76]
 refine hκ _ _ ?_
 refine rt ?_
 refine caught_R ?_
 simp +decide only [go_sem, endD, resD, resV, Store.upd, Store.get, h67, h76, ↓reduceIte]
 exact ⟨_, ((List.Sublist.refl _).cons _).cons _, rfl, by rw [hv]; rfl⟩
end
section
def evV (w s : Int) (vs : List Int) (e : Ex) : Int × Int :=
 if (exB e = true ∧ (50 ≤ s ∧ s ≤ 300) ∧ vs.all okV = true) ∧ 0 ≤ w ∧ w ≤ 1000000 then ((evE w s vs e).getD 0, if (evE w s vs e).isSome = true then 0 else 3) else (0, 1)
attribute [local go_sem] List.length_map rowAt_n nrow rowAt_t trow rowAt_i irow
attribute [local go_sem] rowAt_e rowAt_tm rowAt_dc rowAt_ru tmrow dcrow rurow
attribute [local go_sem] iD_all iD_len rw2_0 rw2_1 rw1_0 Int.toNat_one
attribute [local go_sem] ops_get ops_look
theorem eval_R (w s : Int) (vs : List Int) (hvs : vs.length = 8) (b : Nat) (hw : 0 ≤ w ∧ w ≤ 1000000) (hs : 0 ≤ s ∧ s ≤ 1000000) (e : Ex) (hN : exN e = true) : RCall Tryz.prog (.func 93) [.ag (.int .i64 w :: .int .i64 s :: vs.map iD), .ag [.int .i64 e.op, .int .i64 e.num, .sl 3 (e.kids.map erow) .no], .mp b] [(b, .map opsE)] (fun (y : Unit) => .tup [.int .i64 ((evE w s vs e).getD 0), .int .i64 (if (evE w s vs e).isSome = true then 0 else 3)]) (fun y => [(b, .map opsE)]) (fun y => True) :=
 (eval_w w s vs hvs b hw hs e hN).mono fun r σ' ⟨h1, h2⟩ => ⟨(), trivial, h2, h1⟩
theorem ev_w (w s : Int) (vs : List Int) (hvs : vs.length = 8) (e : Ex) : PCall Tryz.prog (.func 57) [.ag [.int .i64 e.op, .int .i64 e.num, .sl 3 (e.kids.map erow) .no], .int .i64 w, .int .i64 s, .ag (vs.map iD)] (.tup [.int .i64 (evV w s vs e).1, .int .i64 (evV w s vs e).2]) := by
 have ht8 : vs.take 8 = vs := List.take_of_length_le (by omega)
 refine PCall.le ?_
 refine fn_ Tryz.func57 (by rfl) (by rfl) (rs := [.tmp 8, .tmp 9]) (by rfl) (by simp [Tryz.f57]) ?_
 refine sr_ [1, 2, 4, 7] [4, 7] [] fun κ ξ hκ hξ => ?_
 simp +decide only [go_sem]
 refine hκ _ _ ?_
 refine srz_ [(10, [])] [1, 4, 10] [] [] fun κ ξ hκ hξ => ?_
 simp +decide only [go_sem, ht8, hvs, List.append_nil]
 intro b10 hb10
 refine hκ _ _ ?_
 refine sq ?_
 refine sr_ [4, 10, 27] [] [(3, 18), (8, 23)] fun κ ξ hκ hξ => ?_
 simp +decide only [go_sem]
 refine callF (vva_w e) ?_
 simp +decide only [go_sem, ht8, hvs]
 refine vo_gc ?_
 simp +decide only [go_sem]
 refine gcF (vri_w w s vs hvs) ?_
 simp +decide only [go_sem]
 refine vo_gc ?_
 simp +decide only [go_sem]
 refine gcF (vwi_w _ _ _) ?_
 simp +decide only [go_sem]
 refine hκ _ _ ?_
 refine cd_ (fun c0 => ?_) (fun c0 => ?_)
 ·simp only [go_sem] at c0
  have hE : evV w s vs e = (0, 1) := by
   unfold evV
   refine if_neg fun h => ?_
   rcases c0 with (c | c | c) | c
   ·rw [h.1.1] at c; cases c
   ·exact c h.1.2.1
   ·rw [h.1.2.2] at c; cases c
   ·exact c h.2
  refine sr_ [8, 9] [] [] fun κ ξ hκ hξ => ?_
  simp +decide only [go_sem]
  refine hκ _ _ ?_
  refine rt ?_
  refine retE ?_
  simp +decide only [go_sem, resD, resV, ht8, hvs, List.append_nil, hb10, c0]
  rw [hE]
 ·simp only [go_sem] at c0
  have hE : evV w s vs e = ((evE w s vs e).getD 0, if (evE w s vs e).isSome = true then 0 else 3) := by
   unfold evV
   exact if_pos c0
  have hN : exN e = true := (Bool.and_eq_true _ _ ▸ (show (exN e && _) = true from c0.1.1)).1
  have hw := c0.2
  have hs : 0 ≤ s ∧ s ≤ 1000000 := by have := c0.1.2.1; omega
  refine sk ?_
  refine srd_ [8, 9] [] [] [] fun κ ξ hκ hξ => ?_
  simp +decide only [go_sem, ht8, hvs, c0]
  refine callR ops_w fun b _ => ?_
  simp +decide only [go_sem]
  refine ⟨Ext_cons (by simp [Store.keys]), callR (eval_R w s vs hvs b hw hs e hN) fun _ _ => ?_⟩
  simp +decide only [go_sem]
  refine hκ _ _ ?_
  refine rt ?_
  refine retE ?_
  simp +decide only [go_sem, resD, resV, ht8, hvs, List.append_nil, hb10, c0]
  rw [hE]
end
section
def cmpI (x y : Int) : Int := if x < y then -1 else if y < x then 1 else 0
def cmpL : List Int → List Int → Int
 | [], [] => 0
 | [], _ :: _ => -1
 | _ :: _, [] => 1
 | x :: l, y :: m => if cmpI x y = 0 then cmpL l m else cmpI x y
theorem cmpL_step {l m : List Int} {i : Nat} (h1 : i < l.length) (h2 : i < m.length) : cmpL (l.drop i) (m.drop i) = if cmpI (l.getD i 0) (m.getD i 0) = 0 then cmpL (l.drop (i + 1)) (m.drop (i + 1)) else cmpI (l.getD i 0) (m.getD i 0) := by
 rw [List.drop_eq_getElem_cons h1, List.drop_eq_getElem_cons h2, List.getD_eq_getElem?_getD, List.getD_eq_getElem?_getD, List.getElem?_eq_getElem h1, List.getElem?_eq_getElem h2]
 rfl
theorem cmpL_left {l m : List Int} {i : Nat} (h1 : i < l.length) (h2 : m.length ≤ i) : cmpL (l.drop i) (m.drop i) = 1 := by
 rw [List.drop_eq_getElem_cons h1, List.drop_eq_nil_of_le h2]; rfl
theorem cmpL_right {l m : List Int} {i : Nat} (h1 : l.length ≤ i) (h2 : i ≤ m.length) : cmpL (l.drop i) (m.drop i) = if i < m.length then -1 else 0 := by
 rw [List.drop_eq_nil_of_le h1]
 split
 ·rename_i h; rw [List.drop_eq_getElem_cons h]; rfl
 ·rw [List.drop_eq_nil_of_le (by omega)]; rfl
def rdB (w s l : Int) : Bool := decide ((0 ≤ l ∧ l < 4) ∧ (50 ≤ s ∧ s ≤ 300) ∧ 200 ≤ w ∧ w ≤ 4000)
def isBx (n : Int) : Bool := decide (-1 ≤ n ∧ n ≤ 1000000)
attribute [local go_sem] List.length_map rowAt_n nrow rowAt_t trow rowAt_i irow
attribute [local go_sem] rowAt_e rowAt_tm rowAt_dc rowAt_ru tmrow dcrow rurow
attribute [local go_sem] iD_all iD_len rw2_0 rw2_1 rw1_0 Int.toNat_one
theorem inan_w (n : Int) : PCall Tryz.prog (.func 184) [.int .i64 n] (.bool false) := by
 refine PCall.le ?_
 refine fn_ Tryz.func184 (by rfl) (by rfl) (rs := [.tmp 2]) (by rfl) (by simp [Tryz.f184]) ?_
 refine sr_ [0] [] [] fun κ ξ hκ hξ => ?_
 simp +decide only [go_sem]
 refine hκ _ _ ?_
 refine sr_ [2] [] [] fun κ ξ hκ hξ => ?_
 simp +decide only [go_sem]
 refine hκ _ _ ?_
 refine rt ?_
 refine retE ?_
 simp +decide only [go_sem, resD, resV]
 
theorem cmpi_w (x y : Int) : PCall Tryz.prog (.func 138) [.int .i64 x, .int .i64 y] (.int .i64 (cmpI x y)) := by
 refine PCall.le ?_
 refine fn_ Tryz.func138 (by rfl) (by rfl) (rs := [.tmp 4]) (by rfl) (by simp [Tryz.f138]) ?_
 refine sr_ [0, 1] [] [] fun κ ξ hκ hξ => ?_
 simp +decide only [go_sem]
 refine hκ _ _ ?_
 refine sr_ [0, 1, 5] [] [] fun κ ξ hκ hξ => ?_
 simp +decide only [go_sem]
 refine callF (inan_w _) ?_
 simp +decide only [go_sem]
 refine hκ _ _ ?_
 refine sr_ [0, 1, 5, 6] [] [] fun κ ξ hκ hξ => ?_
 simp +decide only [go_sem]
 refine callF (inan_w _) ?_
 simp +decide only [go_sem]
 refine hκ _ _ ?_
 refine sq ?_
 refine sr_ [0, 1, 6, 11] [] [] fun κ ξ hκ hξ => ?_
 simp +decide only [go_sem]
 refine hκ _ _ ?_
 refine cdf (by rfl) ?_
 refine sk ?_
 refine sq ?_
 refine sr_ [0, 1, 13] [] [] fun κ ξ hκ hξ => ?_
 simp +decide only [go_sem]
 refine hκ _ _ ?_
 refine cdf (by rfl) ?_
 refine sk ?_
 refine sq ?_
 refine sr_ [0, 1, 16] [] [] fun κ ξ hκ hξ => ?_
 simp +decide only [go_sem]
 refine hκ _ _ ?_
 refine cd_ (fun c0 => ?_) (fun c0 => ?_)
 ·try simp only [go_sem] at c0
  refine sr_ [4] [] [] fun κ ξ hκ hξ => ?_
  simp +decide only [go_sem, c0]
  refine hκ _ _ ?_
  refine rt ?_
  refine retE ?_
  simp +decide only [go_sem, resD, resV, c0]
  congr 1
  unfold cmpI
  rw [if_pos (by assumption)]
 ·try simp only [go_sem] at c0
  refine sk ?_
  refine sq ?_
  refine sr_ [19] [] [] fun κ ξ hκ hξ => ?_
  simp +decide only [go_sem, c0]
  refine hκ _ _ ?_
  refine cd_ (fun c1 => ?_) (fun c1 => ?_)
  ·try simp only [go_sem] at c1
   refine sr_ [4] [] [] fun κ ξ hκ hξ => ?_
   simp +decide only [go_sem, c1]
   refine hκ _ _ ?_
   refine rt ?_
   refine retE ?_
   simp +decide only [go_sem, resD, resV, c0, c1]
   congr 1
   unfold cmpI
   rw [if_neg (by omega), if_pos (by omega)]
  ·try simp only [go_sem] at c1
   refine sk ?_
   refine sr_ [4] [] [] fun κ ξ hκ hξ => ?_
   simp +decide only [go_sem, c1]
   refine hκ _ _ ?_
   refine rt ?_
   refine retE ?_
   simp +decide only [go_sem, resD, resV, c0, c1]
   congr 1
   unfold cmpI
   rw [if_neg (by omega), if_neg (by omega)]
theorem scmp_w (l m : List Int) (t u : Tok) : PCall Tryz.prog (.func 89) [.sl 1 (l.map irow) t, .sl 1 (m.map irow) u] (.int .i64 (cmpL l m)) := by
 refine PCall.ok fun hok => ?_
 simp only [okAll, D.ok, okRows, and_true, true_and, lim_eq, inR_i64', inR_i32', inR_u8', inR_u16', inR_u64'] at hok
 obtain ⟨⟨hl, hr⟩, hm, hs⟩ := hok; rw [List.length_map] at hl hm
 refine PCall.le ?_
 refine fn_ Tryz.func89 (by rfl) (by rfl) (rs := [.tmp 4]) (by rfl) (by simp [Tryz.f89]) ?_
 refine sr_ [0, 1] [] [] fun κ ξ hκ hξ => ?_
 simp +decide only [go_sem]
 refine hκ _ _ ?_
 refine sq ?_
 refine sr_ [0, 1, 9, 10, 11] [] [] fun κ ξ hκ hξ => ?_
 simp +decide only [go_sem]
 refine hκ _ _ ?_
 refine bl ?_
 refine lp (α := Nat) (fun i => mk [(0, .sl 1 (l.map irow) t), (1, .sl 1 (m.map irow) u), (9, .sl 1 (l.map irow) t), (10, .int .i64 l.length), (11, .int .i64 i)]) (fun _ => []) (fun i => i ≤ l.length ∧ i ≤ m.length ∧ cmpL (l.drop i) (m.drop i) = cmpL l m) (fun i => l.length - i) 0 ⟨⟨by omega, by omega, rfl⟩, EnvLe.of_eq rfl, .refl _⟩ ?_
 rintro i ⟨hi, him, hj⟩
 refine sr_ [0, 1, 9, 10, 11, 12] [] [] fun κ ξ hκ hξ => ?_
 simp +decide only [go_sem]
 refine hκ _ _ ?_
 refine sq ?_
 refine cd_ (fun c0 => ?_) (fun c0 => ?_)
 ·try simp only [go_sem] at c0
  refine sk ?_
  refine sq ?_
  refine bl ?_
  refine sr_ [0, 1, 5, 6, 9, 10, 11] [] [] fun κ ξ hκ hξ => ?_
  simp +decide only [go_sem, c0]
  repeat with_reducible refine an_ ?_
  refine hκ _ _ ?_
  refine sq ?_
  refine sr_ [0, 1, 5, 6, 9, 10, 11, 19] [] [] fun κ ξ hκ hξ => ?_
  simp +decide only [go_sem]
  refine hκ _ _ ?_
  refine cd_ (fun c1 => ?_) (fun c1 => ?_)
  ·simp only [go_sem] at c1
   refine sr_ [4] [] [] fun κ ξ hκ hξ => ?_
   simp +decide only [go_sem, c1]
   refine hκ _ _ ?_
   refine rt ?_
   refine retE ?_
   simp +decide only [go_sem, resD, resV, c0, c1]
   congr 1
   rw [← hj, cmpL_left (by omega) (by omega)]
  ·simp only [go_sem] at c1
   have c1' : (i : Int) < m.length := by omega
   refine sk ?_
   refine sr_ [0, 1, 6, 7, 9, 10, 11] [] [] fun κ ξ hκ hξ => ?_
   simp +decide only [go_sem, c1, c1']
   repeat with_reducible refine an_ ?_
   refine hκ _ _ ?_
   refine sr_ [0, 1, 8, 9, 10, 11] [] [] fun κ ξ hκ hξ => ?_
   simp +decide only [go_sem]
   refine callF (cmpi_w _ _) ?_
   simp +decide only [go_sem]
   refine hκ _ _ ?_
   refine sr_ [0, 1, 8, 9, 10, 11, 28] [] [] fun κ ξ hκ hξ => ?_
   simp +decide only [go_sem]
   refine hκ _ _ ?_
   refine cd_ (fun c2 => ?_) (fun c2 => ?_)
   ·try simp only [go_sem] at c2
    refine sr_ [4] [] [] fun κ ξ hκ hξ => ?_
    simp +decide only [go_sem, c2]
    refine hκ _ _ ?_
    refine rt ?_
    refine retE ?_
    simp +decide only [go_sem, resD, resV, c0, c1, c1', c2]
    congr 1
    rw [← hj, cmpL_step (by omega) (by omega), if_neg (by simpa [iat] using c2)]
    rfl
   ·try simp only [go_sem] at c2
    refine sk ?_
    refine rr_ [0, 1, 9, 10, 11] [] [] fun κ ξ hκ hξ => ?_
    simp +decide only [go_sem, c2]
    refine hκ _ _ ?_
    refine ⟨i + 1, ⟨⟨by omega, by omega, ?_⟩, by omega⟩, EnvLe.of_eq (by rw [w64 (by omega)]; rfl), List.nil_sublist _⟩
    rw [← hj, cmpL_step (i := i) (by omega) (by omega), if_pos (by simpa [iat] using c2)]
 ·try simp only [go_sem] at c0
  refine ex ?_
  refine sq ?_
  refine sr_ [35] [] [] fun κ ξ hκ hξ => ?_
  simp +decide only [go_sem, c0]
  refine hκ _ _ ?_
  refine cd_ (fun c3 => ?_) (fun c3 => ?_)
  ·try simp only [go_sem] at c3
   refine sr_ [4] [] [] fun κ ξ hκ hξ => ?_
   simp +decide only [go_sem, c3]
   refine hκ _ _ ?_
   refine rt ?_
   refine retE ?_
   simp +decide only [go_sem, resD, resV, c0, c3]
   congr 1
   rw [← hj, cmpL_right (by omega) (by omega), if_pos (by omega)]
  ·try simp only [go_sem] at c3
   refine sk ?_
   refine sr_ [4] [] [] fun κ ξ hκ hξ => ?_
   simp +decide only [go_sem, c3]
   refine hκ _ _ ?_
   refine rt ?_
   refine retE ?_
   simp +decide only [go_sem, resD, resV, c0, c3]
   congr 1
   rw [← hj, cmpL_right (by omega) (by omega), if_neg (by omega)]
theorem zwi_w (a b lo hi : Int) : PCall Tryz.prog (.func 176) [.ag [.int .i64 a, .int .i64 b], .int .i64 lo, .int .i64 hi] (.bool (decide (lo ≤ a ∧ a ≤ b ∧ b ≤ hi))) := by
 refine PCall.le ?_
 refine fn_ Tryz.func176 (by rfl) (by rfl) (rs := [.tmp 6]) (by rfl) (by simp [Tryz.f176]) ?_
 refine sr_ [1, 2, 3] [3] [] fun κ ξ hκ hξ => ?_
 simp +decide only [go_sem]
 refine hκ _ _ ?_
 refine sr_ [6] [] [(4, 11), (11, 18)] fun κ ξ hκ hξ => ?_
 simp +decide only [go_sem]
 refine hκ _ _ ?_
 refine rt ?_
 refine retE ?_
 simp +decide only [go_sem, resD, resV]
 all_goals congr 1
 all_goals rw [Bool.eq_iff_iff]
 all_goals simp []
 all_goals omega
theorem zva_w (l a b c d : Int) : PCall Tryz.prog (.func 128) [.ag [.int .i64 l, .int .i64 a, .int .i64 b, .int .i64 c, .int .i64 d]] (.bool (decide ((0 ≤ l ∧ l < 4) ∧ (50 ≤ a ∧ a ≤ b ∧ b ≤ 300) ∧ 200 ≤ c ∧ c ≤ d ∧ d ≤ 4000))) := by
 refine PCall.le ?_
 refine fn_ Tryz.func128 (by rfl) (by rfl) (rs := [.tmp 2]) (by rfl) (by simp [Tryz.f128]) ?_
 refine sr_ [1] [1] [] fun κ ξ hκ hξ => ?_
 simp +decide only [go_sem]
 refine hκ _ _ ?_
 refine sr_ [2] [] [(3, 6), (8, 11), (13, 16)] fun κ ξ hκ hξ => ?_
 simp +decide only [go_sem]
 refine vo_gc ?_
 simp +decide only [go_sem]
 refine gcF (zwi_w _ _ _ _) ?_
 simp +decide only [go_sem]
 refine vo_gc ?_
 simp +decide only [go_sem]
 refine gcF (zwi_w _ _ _ _) ?_
 simp +decide only [go_sem]
 refine hκ _ _ ?_
 refine rt ?_
 refine retE ?_
 simp +decide only [go_sem, resD, resV]
 all_goals congr 1
 all_goals rw [Bool.eq_iff_iff]
 all_goals simp []
 all_goals omega
theorem zon_w (w s l : Int) : PCall Tryz.prog (.func 129) [.ag [.int .i64 w, .int .i64 s, .int .i64 l]] (.ag [.int .i64 l, .int .i64 s, .int .i64 s, .int .i64 w, .int .i64 w]) := by
 refine PCall.le ?_
 refine fn_ Tryz.func129 (by rfl) (by rfl) (rs := [.cell 2 189]) (by rfl) (by simp [Tryz.f129]) ?_
 refine sr_ [1, 2] [1] [] fun κ ξ hκ hξ => ?_
 simp +decide only [go_sem]
 intro b2 hb2
 refine hκ _ _ ?_
 refine sr_ [2] [] [] fun κ ξ hκ hξ => ?_
 simp +decide only [go_sem]
 refine hκ _ _ ?_
 refine rt ?_
 refine retE ?_
 simp +decide only [go_sem, resD, resV, hb2]
 
theorem ifz_w (t : Tok) (f : D) : PCall Tryz.prog (.func 177) [.sl 0 [] t, f] (.int .i64 (-1)) := by
 refine PCall.le ?_
 refine fn_ Tryz.func177 (by rfl) (by rfl) (rs := [.tmp 4]) (by rfl) (by simp [Tryz.f177]) ?_
 refine sr_ [0, 1] [] [] fun κ ξ hκ hξ => ?_
 simp +decide only [go_sem]
 refine hκ _ _ ?_
 refine sq ?_
 refine sr_ [0, 1, 7, 8] [] [] fun κ ξ hκ hξ => ?_
 simp +decide only [go_sem]
 refine hκ _ _ ?_
 refine bl ?_
 refine lpN 1 ?_
 refine rnd ?_
 refine sr_ [0, 1, 7, 8, 9] [] [] fun κ ξ hκ hξ => ?_
 simp +decide only [go_sem]
 refine hκ _ _ ?_
 refine sq ?_
 refine cdf (by rfl) ?_
 refine ex ?_
 refine sr_ [4] [] [] fun κ ξ hκ hξ => ?_
 simp +decide only [go_sem]
 refine hκ _ _ ?_
 refine rt ?_
 refine retE ?_
 simp +decide only [go_sem, resD, resV]
 
theorem cfz_w (t : Tok) (f : D) : PCall Tryz.prog (.func 130) [.sl 0 [] t, f] (.bool false) := by
 refine PCall.le ?_
 refine fn_ Tryz.func130 (by rfl) (by rfl) (rs := [.tmp 4]) (by rfl) (by simp [Tryz.f130]) ?_
 refine sr_ [0, 1] [] [] fun κ ξ hκ hξ => ?_
 simp +decide only [go_sem]
 refine hκ _ _ ?_
 refine sr_ [4] [] [] fun κ ξ hκ hξ => ?_
 simp +decide only [go_sem]
 refine callF (ifz_w _ _) ?_
 simp +decide only [go_sem]
 refine hκ _ _ ?_
 refine rt ?_
 refine retE ?_
 simp +decide only [go_sem, resD, resV]
 
theorem zvl_w (t : Tok) : PCall Tryz.prog (.func 127) [.sl 0 [] t] (.bool true) := by
 refine PCall.le ?_
 refine fn_ Tryz.func127 (by rfl) (by rfl) (rs := [.tmp 2]) (by rfl) (by simp [Tryz.f127]) ?_
 refine sr_ [0] [] [] fun κ ξ hκ hξ => ?_
 simp +decide only [go_sem]
 refine hκ _ _ ?_
 refine sr_ [2] [] [(3, 6)] fun κ ξ hκ hξ => ?_
 simp +decide only [go_sem]
 refine vo_gc ?_
 simp +decide only [go_sem]
 refine gcF (cfz_w _ _) ?_
 simp +decide only [go_sem]
 refine hκ _ _ ?_
 refine rt ?_
 refine retE ?_
 simp +decide only [go_sem, resD, resV]
 
theorem zhs_w (t : Tok) (w s l : Int) : PCall Tryz.prog (.func 83) [.sl 0 [] t, .ag [.int .i64 w, .int .i64 s, .int .i64 l]] (.tup [.bool false, .int .i64 (if rdB w s l = true then 0 else 1)]) := by
 refine PCall.le ?_
 refine fn_ Tryz.func83 (by rfl) (by rfl) (rs := [.tmp 4, .tmp 5]) (by rfl) (by simp [Tryz.f83]) ?_
 refine sr_ [0, 3] [3] [] fun κ ξ hκ hξ => ?_
 simp +decide only [go_sem]
 refine hκ _ _ ?_
 refine sq ?_
 refine sr_ [0, 3, 14] [] [(3, 9)] fun κ ξ hκ hξ => ?_
 simp +decide only [go_sem]
 refine callF (zvl_w _) ?_
 simp +decide only [go_sem]
 refine vo_gc ?_
 simp +decide only [go_sem]
 refine gcF (zon_w _ _ _) ?_
 simp +decide only [go_sem]
 refine vo_gc ?_
 simp +decide only [go_sem]
 refine gcF (zva_w _ _ _ _ _) ?_
 simp +decide only [go_sem]
 refine hκ _ _ ?_
 refine cd_ (fun c0 => ?_) (fun c0 => ?_)
 ·try simp only [go_sem] at c0
  refine sr_ [4, 5] [] [] fun κ ξ hκ hξ => ?_
  simp +decide only [go_sem, c0]
  refine hκ _ _ ?_
  refine rt ?_
  refine retE ?_
  simp +decide only [go_sem, resD, resV, c0]
  rw [if_neg (by unfold rdB; simp; omega)]
 ·try simp only [go_sem] at c0
  refine sk ?_
  refine sr_ [4, 5] [] [] fun κ ξ hκ hξ => ?_
  simp +decide only [go_sem, c0]
  refine callF (cfz_w _ _) ?_
  simp +decide only [go_sem]
  refine hκ _ _ ?_
  refine rt ?_
  refine retE ?_
  simp +decide only [go_sem, resD, resV, c0]
  rw [if_pos (by unfold rdB; simp; omega)]
theorem crd_w (w s l : Int) : PCall Tryz.prog (.func 49) [.ag [.int .i64 w, .int .i64 s, .int .i64 l]] (.bool (rdB w s l)) := by
 refine PCall.le ?_
 refine fn_ Tryz.func49 (by rfl) (by rfl) (rs := [.tmp 2]) (by rfl) (by simp [Tryz.f49]) ?_
 refine sr_ [1] [1] [] fun κ ξ hκ hξ => ?_
 simp +decide only [go_sem]
 refine hκ _ _ ?_
 refine sr_ [4] [] [] fun κ ξ hκ hξ => ?_
 simp +decide only [go_sem]
 refine callF (zhs_w _ _ _ _) ?_
 simp +decide only [go_sem]
 refine hκ _ _ ?_
 refine sr_ [2] [] [] fun κ ξ hκ hξ => ?_
 simp +decide only [go_sem]
 refine hκ _ _ ?_
 refine rt ?_
 refine retE ?_
 simp +decide only [go_sem, resD, resV]
 all_goals congr 1
 all_goals rw [Bool.eq_iff_iff]
 all_goals simp [rdB]
 all_goals omega
theorem drd_w (w s l : Int) : PCall Tryz.prog (.func 86) [.ag [.int .i64 w, .int .i64 s, .int .i64 l]] (.bool (rdB w s l)) := by
 refine PCall.le ?_
 refine fn_ Tryz.func86 (by rfl) (by rfl) (rs := [.tmp 2]) (by rfl) (by simp [Tryz.f86]) ?_
 refine sr_ [1] [1] [] fun κ ξ hκ hξ => ?_
 simp +decide only [go_sem]
 refine hκ _ _ ?_
 refine sr_ [4] [] [] fun κ ξ hκ hξ => ?_
 simp +decide only [go_sem]
 refine callF (zhs_w _ _ _ _) ?_
 simp +decide only [go_sem]
 refine hκ _ _ ?_
 refine sr_ [2] [] [] fun κ ξ hκ hξ => ?_
 simp +decide only [go_sem]
 refine hκ _ _ ?_
 refine rt ?_
 refine retE ?_
 simp +decide only [go_sem, resD, resV]
 all_goals congr 1
 all_goals rw [Bool.eq_iff_iff]
 all_goals simp [rdB]
 all_goals omega
theorem rrd_w (w s l : Int) : PCall Tryz.prog (.func 50) [.ag [.int .i64 w, .int .i64 s, .int .i64 l]] (.bool (rdB w s l)) := by
 refine PCall.le ?_
 refine fn_ Tryz.func50 (by rfl) (by rfl) (rs := [.tmp 2]) (by rfl) (by simp [Tryz.f50]) ?_
 refine sr_ [1] [1] [] fun κ ξ hκ hξ => ?_
 simp +decide only [go_sem]
 refine hκ _ _ ?_
 refine sr_ [2] [] [(3, 6), (8, 11), (13, 16), (18, 21), (23, 26)] fun κ ξ hκ hξ => ?_
 simp +decide only [go_sem]
 refine hκ _ _ ?_
 refine rt ?_
 refine retE ?_
 simp +decide only [go_sem, resD, resV]
 all_goals congr 1
 all_goals rw [Bool.eq_iff_iff]
 all_goals simp [rdB]
 all_goals omega
theorem flag_w (n : Int) : PCall Tryz.prog (.func 85) [.int .i64 n] (.int .i64 (if n = 0 then 0 else 1)) := by
 refine PCall.le ?_
 refine fn_ Tryz.func85 (by rfl) (by rfl) (rs := [.tmp 2]) (by rfl) (by simp [Tryz.f85]) ?_
 refine sr_ [0] [] [] fun κ ξ hκ hξ => ?_
 simp +decide only [go_sem]
 refine hκ _ _ ?_
 refine sq ?_
 refine sr_ [4] [] [] fun κ ξ hκ hξ => ?_
 simp +decide only [go_sem]
 refine hκ _ _ ?_
 refine cd_ (fun c0 => ?_) (fun c0 => ?_)
 ·try simp only [go_sem] at c0
  refine sr_ [2] [] [] fun κ ξ hκ hξ => ?_
  simp +decide only [go_sem, c0]
  refine hκ _ _ ?_
  refine rt ?_
  refine retE ?_
  simp +decide only [go_sem, resD, resV, c0]
  all_goals simp [*]
 ·try simp only [go_sem] at c0
  refine sk ?_
  refine sr_ [2] [] [] fun κ ξ hκ hξ => ?_
  simp +decide only [go_sem, c0]
  refine hκ _ _ ?_
  refine rt ?_
  refine retE ?_
  simp +decide only [go_sem, resD, resV, c0]
  all_goals simp [*]
theorem isbox_w (n : Int) : PCall Tryz.prog (.func 87) [.int .i64 n] (.bool (isBx n)) := by
 refine PCall.le ?_
 refine fn_ Tryz.func87 (by rfl) (by rfl) (rs := [.tmp 2]) (by rfl) (by simp [Tryz.f87]) ?_
 refine sr_ [0] [] [] fun κ ξ hκ hξ => ?_
 simp +decide only [go_sem]
 refine hκ _ _ ?_
 refine sr_ [2] [] [] fun κ ξ hκ hξ => ?_
 simp +decide only [go_sem]
 refine callF (cwi_w _ _ _) ?_
 simp +decide only [go_sem]
 refine hκ _ _ ?_
 refine rt ?_
 refine retE ?_
 simp +decide only [go_sem, resD, resV]
 rfl
end
section
theorem RCells.le {M : Mem} : ∀ {cs cs' : List D} {b o : Nat}, DsLe cs cs' → RCells M cs' b o → RCells M cs b o
 | [], _, _, _, _, _ => by simp only [RCells]
 | c :: cs, [], _, _, h, _ => by simp [DsLe] at h
 | c :: cs, c' :: cs', b, o, h, hr => by
  simp only [DsLe] at h
  simp only [RCells] at hr ⊢
  obtain ⟨⟨x, h1, h2⟩, h3⟩ := hr
  exact ⟨⟨x, h1, h.1 _ _ h2⟩, RCells.le h.2 h3⟩
theorem DsLe.len : ∀ {cs cs' : List D}, DsLe cs cs' → cs.length = cs'.length
 | [], [], _ => rfl
 | [], _ :: _, h => by simp [DsLe] at h
 | _ :: _, [], h => by simp [DsLe] at h
 | _ :: _, _ :: _, h => by simp only [DsLe] at h; simp [DsLe.len h.2]
def RowsLe : List (List D) → List (List D) → Prop
 | [], [] => True
 | r :: rs, r' :: rs' => DsLe r r' ∧ RowsLe rs rs'
 | _, _ => False
theorem RowsLe.len : ∀ {rs rs' : List (List D)}, RowsLe rs rs' → rs.length = rs'.length
 | [], [], _ => rfl
 | [], _ :: _, h => by simp [RowsLe] at h
 | _ :: _, [], h => by simp [RowsLe] at h
 | _ :: _, _ :: _, h => by simp only [RowsLe] at h; simp [RowsLe.len h.2]
theorem RRows.le {M : Mem} {sz : Nat} : ∀ {rs rs' : List (List D)} {b o : Nat}, RowsLe rs rs' → RRows M sz rs' b o → RRows M sz rs b o
 | [], _, _, _, _, _ => by simp only [RRows]
 | _ :: _, [], _, _, h, _ => by simp [RowsLe] at h
 | r :: rs, r' :: rs', b, o, h, hr => by
  simp only [RowsLe] at h
  simp only [RRows] at hr ⊢
  exact ⟨h.1.len.trans hr.1, RCells.le h.1 hr.2.1, RRows.le h.2 hr.2.2⟩
theorem DLe.rows {sz : Nat} {rs rs' : List (List D)} {t : Tok} (h : RowsLe rs rs') : DLe (.sl sz rs .no) (.sl sz rs' t) := by
 intro M v hr
 simp only [R] at hr ⊢
 obtain ⟨p, cap, h1, h2, h3, h4, h5⟩ := hr
 rw [← h.len] at h1 h2 h3
 refine ⟨p, cap, h1, h2, h3, fun hn => ?_, trivial⟩
 obtain ⟨b, o, e, hr⟩ := h4 (by intro e; have := h.len; rw [e] at this; exact hn (List.eq_nil_of_length_eq_zero this))
 exact ⟨b, o, e, RRows.le h hr⟩
theorem ACall.args {P : Program} {f : Fn} {ys xs : List D} {σ : Store} {Q : Res → Store → Prop} (h : ACall P f ys σ Q) (hl : DsLe ys xs) : ACall P f xs σ Q := fun M w vs hc hr => h M w vs hc (hl.R hr)
theorem PCall.args {P : Program} {f : Fn} {ys xs : List D} {d : D} (h : PCall P f ys d) (hl : DsLe ys xs) : PCall P f xs d := ACall.args h hl
theorem callFc {P : Program} {σ : Store} {g : Nat} {fs cs xs : List D} {d : D} {K X : D → Store → Prop} (h : PCall P (.func g) (fs ++ xs ++ cs) d) (hk : K d σ) : CallK P (.fn (.func g) fs cs) xs K X σ := by
 unfold CallK
 exact ⟨fun e => by simp [isYield] at e, .inl ⟨d, h, hk⟩⟩
end
section
def askB (o : Int) : Bool := decide (o = 1 ∨ o = 2 ∨ o = 3 ∨ o = 4 ∨ o = 6 ∨ o = 7)
def askV (w s b o : Int) : Int := if o = 1 ∨ o = 2 then w else if o = 3 ∨ o = 4 then s else b
def asksE (w s b : Int) : List (D × D) := [(.int .i64 1, .int .i64 w), (.int .i64 2, .int .i64 w), (.int .i64 3, .int .i64 s), (.int .i64 4, .int .i64 s), (.int .i64 6, .int .i64 b), (.int .i64 7, .int .i64 b)]
theorem asks_get (w s b o : Int) : mget (.int .i64 o) (asksE w s b) = some (if askB o = true then some (.int .i64 (askV w s b o)) else none) := by
 by_cases h : o = 1 ∨ o = 2 ∨ o = 3 ∨ o = 4 ∨ o = 6 ∨ o = 7
 ·rcases h with rfl | rfl | rfl | rfl | rfl | rfl <;> rfl
 ·rw [if_neg (by unfold askB; rw [decide_eq_true_eq]; exact h)]
  simp only [not_or] at h
  simp [asksE, mget, keqD, h.1, h.2.1, h.2.2.1, h.2.2.2.1, h.2.2.2.2.1, h.2.2.2.2.2]
theorem asks_look (w s b o : Int) : lookD true (.int .i64 0) (if askB o = true then some (.int .i64 (askV w s b o)) else none) = .tup [.int .i64 (if askB o = true then askV w s b o else 0), .bool (askB o)] := by
 cases h : askB o <;> rfl
def hdB (t : Tm) (w s l b : Int) : Bool :=
 if askB t.what = true then (if 6 ≤ t.what ∧ b < 0 then false else if t.what = 1 ∨ t.what = 3 ∨ t.what = 6 then decide (askV w s b t.what < t.n) else decide (t.n ≤ askV w s b t.what)) else decide (l = t.n)
def conB (l : List Tm) : Bool := decide (l.length ≤ 8) && l.all tmB
theorem con_one (l : List Tm) : rulesB [⟨0, [ts0], l, []⟩] = conB l := by
 have h : selB [ts0] = true := by decide
 simp [rulesB, ruB, conB, h]
theorem fix_any {α : Type} (p : α → Bool) (d : α) (l : List α) : decide (0 ≤ fixI p l) = l.any p := by
 have h := fix_all (fun x => !p x) d l
 simp only [Bool.not_not] at h
 rw [h, List.not_all_eq_any_not]
 congr 1
 funext x
 exact Bool.not_not _
attribute [local go_sem] List.length_map rowAt_n nrow rowAt_t trow rowAt_i irow
attribute [local go_sem] rowAt_e rowAt_tm rowAt_dc rowAt_ru tmrow dcrow rurow
attribute [local go_sem] iD_all iD_len rw2_0 rw2_1 rw1_0 Int.toNat_one
attribute [local go_sem] asks_get asks_look
theorem clip_w (a b : Int) : PCall Tryz.prog (.func 84) [.int .i64 a, .int .i64 b] (.fn (.func 133) [] [.el [.int .i64 a], .el [.int .i64 b]]) := by
 refine PCall.le ?_
 refine fn_ Tryz.func84 (by rfl) (by rfl) (rs := [.tmp 4]) (by rfl) (by simp [Tryz.f84]) ?_
 refine sr_ [2, 3] [2, 3] [] fun κ ξ hκ hξ => ?_
 simp +decide only [go_sem]
 refine hκ _ _ ?_
 refine sr_ [4] [] [] fun κ ξ hκ hξ => ?_
 simp +decide only [go_sem]
 refine hκ _ _ ?_
 refine rt ?_
 refine retE ?_
 simp +decide only [go_sem, resD, resV]
 
theorem clp_w (n a b : Int) : PCall Tryz.prog (.func 133) [.int .i64 n, .el [.int .i64 a], .el [.int .i64 b]] (.int .i64 (mnI (mxI n a) b)) := by
 refine PCall.le ?_
 refine fn_ Tryz.func133 (by rfl) (by rfl) (rs := [.tmp 4]) (by rfl) (by simp [Tryz.f133]) ?_
 refine sr_ [0, 1, 2] [] [] fun κ ξ hκ hξ => ?_
 simp +decide only [go_sem]
 refine hκ _ _ ?_
 refine sr_ [4] [] [] fun κ ξ hκ hξ => ?_
 simp +decide only [go_sem]
 refine hκ _ _ ?_
 refine rt ?_
 refine retE ?_
 simp +decide only [go_sem, resD, resV]
 
theorem hlds_w (t : Tm) (w s lg bx : Int) : PCall Tryz.prog (.func 182) [.ag (tmrow t), .ag [.int .i64 w, .int .i64 s, .int .i64 lg], .int .i64 bx] (.bool (hdB t w s lg bx)) := by
 refine PCall.le ?_
 refine fn_ Tryz.func182 (by rfl) (by rfl) (rs := [.tmp 6]) (by rfl) (by simp [Tryz.f182]) ?_
 refine sr_ [2, 3, 4] [3, 4] [] fun κ ξ hκ hξ => ?_
 simp +decide only [go_sem]
 refine hκ _ _ ?_
 refine sr_ [2, 3, 4, 7] [] [] fun κ ξ hκ hξ => ?_
 simp +decide only [go_sem]
 intro b10 hb10
 refine hκ _ _ ?_
 refine weak _ (EnvLe.refl _) (σ' := [(b10, .map (asksE w s bx))]) (.refl _) ?_
 refine sr_ [2, 3, 4, 8, 9] [] [] fun κ ξ hκ hξ => ?_
 simp +decide only [go_sem]
 refine hκ _ _ ?_
 refine sq ?_
 refine bl ?_
 refine sr_ [2, 3, 4, 8, 29] [] [] fun κ ξ hκ hξ => ?_
 simp +decide only [go_sem]
 refine hκ _ _ ?_
 refine cd_ (fun c0 => ?_) (fun c0 => ?_)
 ·try simp only [go_sem] at c0
  refine sr_ [6] [] [] fun κ ξ hκ hξ => ?_
  simp +decide only [go_sem, c0]
  refine hκ _ _ ?_
  refine rt ?_
  refine retE ?_
  simp +decide only [go_sem, resD, resV, hb10, c0]
  congr 1
  unfold hdB
  rw [if_neg (by rw [c0]; simp)]
 ·try simp only [go_sem] at c0
  refine sr_ [3, 8, 37] [] [(3, 41)] fun κ ξ hκ hξ => ?_
  simp +decide only [go_sem, c0]
  refine hκ _ _ ?_
  refine cd_ (fun c1 => ?_) (fun c1 => ?_)
  ·try simp only [go_sem] at c1
   refine sr_ [6] [] [] fun κ ξ hκ hξ => ?_
   simp +decide only [go_sem, c1]
   refine hκ _ _ ?_
   refine rt ?_
   refine retE ?_
   simp +decide only [go_sem, resD, resV, hb10, c0, c1]
   congr 1
   unfold hdB
   rw [if_pos c0, if_pos c1]
  ·try simp only [go_sem] at c1
   refine sr_ [3, 8, 45] [] [(3, 49), (8, 54)] fun κ ξ hκ hξ => ?_
   simp +decide only [go_sem]
   refine hκ _ _ ?_
   refine cd_ (fun c2 => ?_) (fun c2 => ?_)
   ·try simp only [go_sem] at c2
    refine sr_ [6] [] [] fun κ ξ hκ hξ => ?_
    simp +decide only [go_sem]
    refine hκ _ _ ?_
    refine rt ?_
    refine retE ?_
    simp +decide only [go_sem, resD, resV, hb10, c0, c1, c2]
    congr 1
    unfold hdB
    rw [if_pos c0, if_neg (by omega), if_pos (by omega)]
   ·try simp only [go_sem] at c2
    refine sk ?_
    refine sr_ [6] [] [] fun κ ξ hκ hξ => ?_
    simp +decide only [go_sem, c2]
    refine hκ _ _ ?_
    refine rt ?_
    refine retE ?_
    simp +decide only [go_sem, resD, resV, hb10, c0, c1, c2]
    congr 1
    unfold hdB
    rw [if_pos c0, if_neg (by omega), if_neg (by omega)]
theorem hl1_w (t : Tm) (w s lg bx : Int) : PCall Tryz.prog (.func 181) [.ag (tmrow t), .el [.int .i64 w, .int .i64 s, .int .i64 lg], .el [.int .i64 bx]] (.bool (!hdB t w s lg bx)) := by
 refine PCall.le ?_
 refine fn_ Tryz.func181 (by rfl) (by rfl) (rs := [.tmp 4]) (by rfl) (by simp [Tryz.f181]) ?_
 refine sr_ [1, 2, 3] [3] [] fun κ ξ hκ hξ => ?_
 simp +decide only [go_sem]
 refine hκ _ _ ?_
 refine sr_ [4] [] [] fun κ ξ hκ hξ => ?_
 simp +decide only [go_sem]
 refine callF (hlds_w _ _ _ _ _) ?_
 simp +decide only [go_sem]
 refine hκ _ _ ?_
 refine rt ?_
 refine retE ?_
 simp +decide only [go_sem, resD, resV]
 
theorem ift2_w (F : D) (p : Tm → Bool) (hF : ∀ (x : Tm) (σ : Store) (K X : D → Store → Prop), K (.bool (p x)) σ → CallK Tryz.prog F [.ag (tmrow x)] K X σ) (l : List Tm) (t : Tok) : PCall Tryz.prog (.func 167) [.sl 2 (l.map tmrow) t, F] (.int .i64 (fixI p l)) := by
 refine PCall.ok fun hok => ?_
 simp only [okAll, D.ok, okRows, and_true, true_and, lim_eq, inR_i64', inR_i32', inR_u8', inR_u16', inR_u64'] at hok
 have hl := hok.1.1; rw [List.length_map] at hl
 refine PCall.le ?_
 refine fn_ Tryz.func167 (by rfl) (by rfl) (rs := [.tmp 4]) (by rfl) (by simp [Tryz.f167]) ?_
 refine sr_ [0, 1] [] [] fun κ ξ hκ hξ => ?_
 simp +decide only [go_sem]
 refine hκ _ _ ?_
 refine sq ?_
 refine sr_ [0, 1, 7, 8] [] [] fun κ ξ hκ hξ => ?_
 simp +decide only [go_sem]
 refine hκ _ _ ?_
 refine bl ?_
 refine lp (α := Nat) (fun i => mk [(0, .sl 2 (l.map tmrow) t), (1, F), (7, .int .i64 l.length), (8, .int .i64 i)]) (fun _ => []) (fun i => i ≤ l.length ∧ ∀ j, j < i → p (tmat l j) = false) (fun i => l.length - i) 0 ⟨⟨by omega, by intro j hj; omega⟩, EnvLe.of_eq rfl, .refl _⟩ ?_
 rintro i ⟨hi, hj⟩
 refine sr_ [0, 1, 7, 8, 9] [] [] fun κ ξ hκ hξ => ?_
 simp +decide only [go_sem]
 refine hκ _ _ ?_
 refine sq ?_
 refine cd_ (fun c0 => ?_) (fun c0 => ?_)
 ·try simp only [go_sem] at c0
  refine sk ?_
  refine sq ?_
  refine bl ?_
  refine sr_ [0, 1, 5, 7, 8] [] [] fun κ ξ hκ hξ => ?_
  simp +decide only [go_sem, c0]
  refine hκ _ _ ?_
  refine sr_ [0, 1, 5, 7, 8, 16] [] [] fun κ ξ hκ hξ => ?_
  simp +decide only [go_sem, c0]
  repeat with_reducible refine an_ ?_
  refine hF _ _ _ _ ?_
  simp +decide only [go_sem]
  refine hκ _ _ ?_
  refine cd_ (fun c1 => ?_) (fun c1 => ?_)
  ·try simp only [go_sem] at c1
   refine sr_ [4] [] [] fun κ ξ hκ hξ => ?_
   simp +decide only [go_sem, c1]
   refine hκ _ _ ?_
   refine rt ?_
   refine retE ?_
   simp +decide only [go_sem, resD, resV, c0, c1]
   congr 1
   rw [fixI_some (p := p) (d := tm0) (i := i) (by omega) (by simpa [tmat] using c1) fun j h => by simpa [tmat] using hj j h]
  ·try simp only [go_sem] at c1
   refine sk ?_
   refine rr_ [0, 1, 7, 8] [] [] fun κ ξ hκ hξ => ?_
   simp +decide only [go_sem, c1]
   refine hκ _ _ ?_
   refine ⟨i + 1, ⟨⟨by omega, ?_⟩, by omega⟩, EnvLe.of_eq (by rw [w64 (by omega)]; rfl), List.nil_sublist _⟩
   intro j h
   rcases Nat.lt_succ_iff_lt_or_eq.1 h with h | rfl
   ·exact hj j h
   ·first | assumption | simpa using c1
 ·try simp only [go_sem] at c0
  refine ex ?_
  refine sr_ [4] [] [] fun κ ξ hκ hξ => ?_
  simp +decide only [go_sem, c0]
  refine hκ _ _ ?_
  refine rt ?_
  refine retE ?_
  simp +decide only [go_sem, resD, resV, c0]
  congr 1
  rw [fixI_none (p := p) (d := tm0) fun j h => by simpa [tmat] using hj j (by omega)]
theorem cft2_w (F : D) (p : Tm → Bool) (hF : ∀ (x : Tm) (σ : Store) (K X : D → Store → Prop), K (.bool (p x)) σ → CallK Tryz.prog F [.ag (tmrow x)] K X σ) (l : List Tm) (t : Tok) : PCall Tryz.prog (.func 111) [.sl 2 (l.map tmrow) t, F] (.bool (l.any p)) := by
 refine PCall.le ?_
 refine fn_ Tryz.func111 (by rfl) (by rfl) (rs := [.tmp 4]) (by rfl) (by simp [Tryz.f111]) ?_
 refine sr_ [0, 1] [] [] fun κ ξ hκ hξ => ?_
 simp +decide only [go_sem]
 refine hκ _ _ ?_
 refine sr_ [4] [] [] fun κ ξ hκ hξ => ?_
 simp +decide only [go_sem]
 refine callF (ift2_w F p hF _ _) ?_
 simp +decide only [go_sem]
 refine hκ _ _ ?_
 refine rt ?_
 refine retE ?_
 simp +decide only [go_sem, resD, resV]
 all_goals congr 1
 all_goals exact fix_any _ tm0 _
theorem isco_w (l : List Tm) (t : Tok) : PCall Tryz.prog (.func 180) [.sl 2 (l.map tmrow) t] (.bool (conB l)) := by
 refine PCall.le ?_
 refine fn_ Tryz.func180 (by rfl) (by rfl) (rs := [.tmp 2]) (by rfl) (by simp [Tryz.f180]) ?_
 refine sr_ [0] [] [] fun κ ξ hκ hξ => ?_
 simp +decide only [go_sem]
 refine hκ _ _ ?_
 refine sr_ [2] [] [] fun κ ξ hκ hξ => ?_
 simp +decide only [go_sem]
 refine callF ((shv_w [⟨0, [ts0], l, []⟩] .no).args ⟨DLe.rows ⟨⟨DLe.refl _, DLe.rows ⟨⟨DLe.refl _, DLe.refl _, DLe.refl _, DLe.refl _, trivial⟩, trivial⟩, DLe.tok _ _ _, DLe.nil _ _ _, trivial⟩, trivial⟩, trivial⟩) ?_
 simp +decide only [go_sem]
 refine hκ _ _ ?_
 refine rt ?_
 refine retE ?_
 simp +decide only [go_sem, resD, resV]
 congr 1
 rw [con_one]
theorem hol_w (l : List Tm) (t : Tok) (w s lg bx : Int) : PCall Tryz.prog (.func 136) [.sl 2 (l.map tmrow) t, .ag [.int .i64 w, .int .i64 s, .int .i64 lg], .int .i64 bx] (.tup [.bool (conB l && rdB w s lg && isBx bx && l.all fun t => hdB t w s lg bx), .int .i64 (if (conB l && rdB w s lg && isBx bx) = true then 0 else 1)]) := by
 refine PCall.le ?_
 refine fn_ Tryz.func136 (by rfl) (by rfl) (rs := [.tmp 6, .tmp 7]) (by rfl) (by simp [Tryz.f136]) ?_
 refine sr_ [0, 4, 5] [4, 5] [] fun κ ξ hκ hξ => ?_
 simp +decide only [go_sem]
 refine hκ _ _ ?_
 refine sq ?_
 refine sr_ [0, 4, 5, 20] [] [(3, 11), (8, 16)] fun κ ξ hκ hξ => ?_
 simp +decide only [go_sem]
 refine callF (isco_w _ _) ?_
 simp +decide only [go_sem]
 refine vo_gc ?_
 simp +decide only [go_sem]
 refine gcF (drd_w _ _ _) ?_
 simp +decide only [go_sem]
 refine vo_gc ?_
 simp +decide only [go_sem]
 refine gcF (isbox_w _) ?_
 simp +decide only [go_sem]
 refine hκ _ _ ?_
 refine cd_ (fun c0 => ?_) (fun c0 => ?_)
 ·try simp only [go_sem] at c0
  refine sr_ [6, 7] [] [] fun κ ξ hκ hξ => ?_
  simp +decide only [go_sem]
  refine hκ _ _ ?_
  refine rt ?_
  refine retE ?_
  simp +decide only [go_sem, resD, resV, c0]
  rw [if_neg (by rintro ⟨⟨a, b⟩, c⟩; rcases c0 with (h | h) | h <;> simp_all)]
  congr 3
  rcases c0 with (h | h) | h <;> simp [h]
 ·try simp only [go_sem] at c0
  refine sk ?_
  refine sr_ [6, 7] [] [] fun κ ξ hκ hξ => ?_
  simp +decide only [go_sem, c0]
  trace_state
  refine callF (cft2_w (.fn (.func 181) [] [.el [.int .i64 w, .int .i64 s, .int .i64 lg], .el [.int .i64 bx]]) (fun t => !hdB t w s lg bx) (fun x σ K X h => callFc (hl1_w x w s lg bx) h) _ _) ?_
  simp +decide only [go_sem]
  refine hκ _ _ ?_
  refine rt ?_
  refine retE ?_
  simp +decide only [go_sem, resD, resV, c0]
  congr 3
  rw [List.all_eq_not_any_not]
end
end Go.Proofs.YtinhjbnljbmbcaaGreat
/- Joined. -/
namespace Go.Proofs.YtinhjbnljbmbcaaGreat
open Go Go.RowKit
set_option linter.unusedSimpArgs false
set_option linter.unusedVariables false
set_option maxHeartbeats 4000000
set_option maxRecDepth 100000
attribute [local go_sem] List.length_map rowAt_n nrow rowAt_t trow rowAt_i irow
attribute [local go_sem] pl_get pl_look pl_look'
theorem places_w (l : List Nd) (t : Tok) : RCall Tryz.prog (.func 66) [.sl 5 (l.map nrow) t] [] (fun (b : Nat) => bif treB l then .tup [.mp b, .bool true] else .tup [.v (.map none), .bool false]) (fun (b : Nat) => bif treB l then [(b, .map (plE l l.length))] else []) (fun (b : Nat) => True) := by
 refine RCall.ok fun hok => ?_
 simp only [okAll, D.ok, okRows, and_true, true_and, lim_eq, inR_i64', inR_i32', inR_u8', inR_u16', inR_u64'] at hok
 obtain ⟨hl, hr⟩ := hok; rw [List.length_map] at hl
 refine fn_ Tryz.func66 (by rfl) (by rfl) (rs := [.tmp 2, .tmp 3]) (by rfl) (by simp [Tryz.f66]) ?_
 refine sr_ [0] [] [] fun κ ξ hκ hξ => ?_
 simp +decide only [go_sem]
 refine hκ _ _ ?_
 refine sq ?_
 by_cases hl0 : 0 < l.length
 ·have hl1 : ¬ (l.length : Int) < 1 := by omega
  have hl2 : ((0 : Nat) : Int) < (l.length : Int) := by omega
  have hl3 : (0 : Int) < (l.length : Int) := by omega
  refine sr_ [0, 30] [] [(3, 12), (8, 17), (15, 24)] fun κ ξ hκ hξ => ?_
  simp +decide only [go_sem, hl1, hl2, hl3]
  refine hκ _ _ ?_
  refine cd_ (fun c0 => ?_) (fun c0 => ?_)
  ·try simp only [go_sem] at c0
   refine sr_ [2, 3] [] [] fun κ ξ hκ hξ => ?_
   simp +decide only [go_sem]
   refine hκ _ _ ?_
   have ht : treB l = false := by
    rw [← Bool.not_eq_true, treB_true]
    intro t
    have := t.len
    have := t.root
    omega
   refine rt ?_
   refine retR (0) ?_ ?_ ?_
   ·first | exact .refl _ | exact List.nil_sublist _ | exact List.sublist_cons_of_sublist _ (.refl _) | exact ((List.Sublist.refl _).cons _).cons _ | (simp [*]; done) | skip
   ·first | trivial | assumption | omega | (simp; done) | skip
   simp +decide only [go_sem, resD, resV, hl1, hl2, hl3, c0]
   rw [ht]; rfl
  ·try simp only [go_sem] at c0
   refine sk ?_
   refine sr_ [0, 4] [] [] fun κ ξ hκ hξ => ?_
   simp +decide only [go_sem, c0]
   intro b31 hb31
   refine hκ _ _ ?_
   refine sq ?_
   refine sr_ [0, 4, 32, 33, 34] [] [] fun κ ξ hκ hξ => ?_
   simp +decide only [go_sem]
   refine hκ _ _ ?_
   refine bl ?_
   refine lp (α := Nat) (fun i => mk [(0, .sl 5 (l.map nrow) t), (4, .mp b31), (32, .sl 5 (l.map nrow) t), (33, .int .i64 l.length), (34, .int .i64 i)]) (fun i => [(b31, .map (plE l i))]) (fun i => i ≤ l.length ∧ ∀ j, j < i → okAt l j = true) (fun i => l.length - i) 0 ⟨⟨by omega, by intro j hj; omega⟩, EnvLe.of_eq rfl, .refl _⟩ ?_
   rintro i ⟨hi, hj⟩
   have hpar : dpt l i = (plk l i (nat l i).par).2 + 1 := plk_dpt l i
   obtain ⟨hk0, hk1⟩ := plk_bounds l hi (nat l i).par
   have hth := plk_there l i (nat l i).id
   have hge := idx_ge (l.take i) (nat l i).id
   obtain ⟨k, hpk, hkl⟩ : ∃ k : Nat, (plk l i (nat l i).par).1 = (k : Int) ∧ (k : Int) < l.length := by
    by_cases h : 0 ≤ idx (l.take i) (nat l i).par
    ·obtain ⟨h1, _⟩ := hk1 h
     exact ⟨(plk l i (nat l i).par).1.toNat, by omega, by omega⟩
    ·have : plk l i (nat l i).par = (0, 0) := by unfold plk; rw [if_neg h]
     exact ⟨0, by rw [this]; rfl, by omega⟩
   refine sr_ [0, 4, 32, 33, 34, 35] [] [] fun κ ξ hκ hξ => ?_
   simp +decide only [go_sem]
   refine hκ _ _ ?_
   refine sq ?_
   refine cd_ (fun c1 => ?_) (fun c1 => ?_)
   ·try simp only [go_sem] at c1
    refine sk ?_
    refine sq ?_
    refine bl ?_
    refine srz_ [(6, [])] [0, 4, 5, 6, 32, 33, 34] [] [] fun κ ξ hκ hξ => ?_
    simp +decide only [go_sem, c1]
    repeat with_reducible refine an_ ?_
    intro b6 hb6
    refine hκ _ _ ?_
    refine srz_ [(7, [])] [0, 4, 5, 6, 7, 8, 32, 33, 34] [] [] fun κ ξ hκ hξ => ?_
    simp +decide only [go_sem, hi]
    intro b7 hb7
    skip
    refine hκ _ _ ?_
    refine sq ?_
    refine srd_ [0, 4, 5, 6, 7, 32, 33, 34, 81] [] [47, 72] [(3, 49), (11, 57), (14, 60), (17, 63), (31, 77)] fun κ ξ hκ hξ => ?_
    simp +decide only [go_sem, hpk]
    refine scallF (formed_w _) ?_
    simp +decide only [go_sem, hi, hkl]
    repeat with_reducible refine an_ ?_
    refine vd_gc (by rfl) ?_
    simp +decide only [go_sem]
    refine gcF (stands_w _ _) ?_
    simp +decide only [go_sem]
    repeat with_reducible refine an_ ?_
    refine hκ _ _ ?_
    refine cd_ (fun c2 => ?_) (fun c2 => ?_)
    ·simp only [go_sem] at c2
     refine sr_ [2, 3] [] [] fun κ ξ hκ hξ => ?_
     simp +decide only [go_sem]
     refine hκ _ _ ?_
     have ht : treB l = false := by
      refine treB_false (i := i) (by omega) ?_
      rw [← Bool.not_eq_true, ok_prog (by omega) hj hpk]
      rintro ⟨a, ⟨b1, b2⟩, d, e⟩
      rcases c2 with (((h | h | h) | ⟨h0, h | h⟩) | h)
      ·rw [a] at h; cases h
      ·exact h b1
      ·exact h b2
      ·exact h (d (by omega)).1
      ·rw [(d (by omega)).2] at h; cases h
      ·exact e h
     refine rt ?_
     refine retR (0) ?_ ?_ ?_
     ·first | exact .refl _ | exact List.nil_sublist _ | exact List.sublist_cons_of_sublist _ (.refl _) | exact ((List.Sublist.refl _).cons _).cons _ | (simp [*]; done) | skip
     ·first | trivial | assumption | omega | (simp; done) | skip
     simp +decide only [go_sem, resD, resV, hl1, hl2, hl3, c0, hb31, hi, c1, hb6, hb7, hpk, hkl, c2]
     rw [ht]; rfl
    ·simp only [go_sem] at c2
     have hok : okAt l i = true := by
      rw [ok_prog (by omega) hj hpk]
      exact ⟨c2.1.1.1, c2.1.1.2, fun h0 => c2.1.2.resolve_left (fun h => h (by omega)), c2.2⟩
     obtain ⟨hd1, hd2⟩ := plk_two l hj (nat l i).par
     have hw : IntKind.wrap .i64 ((plk l i (nat l i).par).2 + 1) = dpt l i := by rw [w64 (by omega)]; omega
     have hput := pl_put l (by omega) (okAt_true.1 hok).2.1
     refine sk ?_
     refine rr_ [0, 4, 32, 33, 34] [] [] fun κ ξ hκ hξ => ?_
     simp +decide only [go_sem, c2, hw, hput]
     refine hκ _ _ ?_
     refine rr_ [0, 4, 32, 33, 34] [] [] fun κ ξ hκ hξ => ?_
     simp +decide only [go_sem]
     refine hκ _ _ ?_
     refine ⟨i + 1, ⟨⟨by omega, ?_⟩, by omega⟩, EnvLe.of_eq (by rw [w64 (by omega)]; rfl), .refl _⟩
     intro j h
     rcases Nat.lt_succ_iff_lt_or_eq.1 h with h | rfl
     ·exact hj j h
     ·exact hok
   ·try simp only [go_sem] at c1
    refine ex ?_
    refine sr_ [2, 3] [] [] fun κ ξ hκ hξ => ?_
    simp +decide only [go_sem, c1]
    refine hκ _ _ ?_
    have hil : i = l.length := by omega
    subst hil
    have ht : treB l = true := treB_all (by omega) c0.1.2 c0.2 hj
    refine rt ?_
    refine retR (b31) ?_ ?_ ?_
    ·first | exact .refl _ | exact List.nil_sublist _ | exact List.sublist_cons_of_sublist _ (.refl _) | exact ((List.Sublist.refl _).cons _).cons _ | (simp [*]; done) | skip
    ·first | trivial | assumption | omega | (simp; done) | skip
    simp +decide only [go_sem, resD, resV, hl1, hl2, hl3, c0, hb31, hi, c1]
    rw [ht]; rfl
 ·have hl1 : (l.length : Int) < 1 := by omega
  refine sr_ [0, 30] [] [(3, 12), (8, 17), (15, 24)] fun κ ξ hκ hξ => ?_
  simp +decide only [go_sem, hl1]
  refine hκ _ _ ?_
  refine cdt (by rfl) ?_
  refine sr_ [2, 3] [] [] fun κ ξ hκ hξ => ?_
  simp +decide only [go_sem]
  refine hκ _ _ ?_
  have ht : treB l = false := by
   rw [← Bool.not_eq_true, treB_true]
   intro t
   have := t.len
   omega
  refine rt ?_
  refine retR (0) ?_ ?_ ?_
  ·first | exact .refl _ | exact List.nil_sublist _ | exact List.sublist_cons_of_sublist _ (.refl _) | exact ((List.Sublist.refl _).cons _).cons _ | (simp [*]; done) | skip
  ·first | trivial | assumption | omega | (simp; done) | skip
  simp +decide only [go_sem, resD, resV, hl1]
  rw [ht]; rfl
end Go.Proofs.YtinhjbnljbmbcaaGreat
/- The walks of Find and Kids. Printed by a tool of our own. -/
namespace Go.Proofs.YtinhjbnljbmbcaaGreat
open Go Go.RowKit
set_option linter.unusedSimpArgs false
set_option linter.unusedVariables false
set_option maxHeartbeats 4000000
set_option maxRecDepth 100000
def gerr (l : List Nd) (x : Int) : Int := if (treB l && idB x) = true then (if 0 ≤ idx l x then 0 else 4) else 1
attribute [local go_sem] List.length_map rowAt_n nrow rowAt_t trow rowAt_i irow
attribute [local go_sem] pl_getF pl_lookF pl_lookF' foldI
theorem tre_w (l : List Nd) (t : Tok) : PCall Tryz.prog (.func 33) [.sl 5 (l.map nrow) t] (.bool (treB l)) := by
 refine PCall.le ?_
 refine fn_ Tryz.func33 (by rfl) (by rfl) (rs := [.tmp 2]) (by rfl) (by simp [Tryz.f33]) ?_
 refine sr_ [0] [] [] fun κ ξ hκ hξ => ?_
 simp +decide only [go_sem]
 refine hκ _ _ ?_
 cases ht : treB l
 ·skip
  refine sr_ [4] [] [] fun κ ξ hκ hξ => ?_
  simp +decide only [go_sem]
  refine callR (places_w _ _) fun b _ => ?_
  simp +decide only [go_sem, ht]
  refine hκ _ _ ?_
  refine sr_ [2] [] [] fun κ ξ hκ hξ => ?_
  simp +decide only [go_sem]
  refine hκ _ _ ?_
  refine rt ?_
  refine retE ?_
  simp +decide only [go_sem, resD, resV, ht]
  
 ·skip
  refine sr_ [4] [] [] fun κ ξ hκ hξ => ?_
  simp +decide only [go_sem]
  refine callR (places_w _ _) fun b _ => ?_
  simp +decide only [go_sem, ht]
  refine hκ _ _ ?_
  refine sr_ [2] [] [] fun κ ξ hκ hξ => ?_
  simp +decide only [go_sem]
  refine hκ _ _ ?_
  refine rt ?_
  refine retE ?_
  simp +decide only [go_sem, resD, resV, ht]
  
theorem find_w (l : List Nd) (t : Tok) (x : Int) : PCall Tryz.prog (.func 46) [.sl 5 (l.map nrow) t, .int .i64 x] (.tup [.int .i64 (if (treB l && idB x) = true then fi l x else 0), .bool (treB l && idB x && decide (0 ≤ idx l x)), .int .i64 (if (treB l && idB x) = true then 0 else 1)]) := by
 refine PCall.le ?_
 refine fn_ Tryz.func46 (by rfl) (by rfl) (rs := [.tmp 4, .tmp 5, .tmp 6]) (by rfl) (by simp [Tryz.f46]) ?_
 refine sr_ [0, 1] [] [] fun κ ξ hκ hξ => ?_
 simp +decide only [go_sem]
 refine hκ _ _ ?_
 cases ht : treB l
 ·skip
  refine sr_ [1, 7, 8] [] [] fun κ ξ hκ hξ => ?_
  simp +decide only [go_sem]
  refine callR (places_w _ _) fun b _ => ?_
  simp +decide only [go_sem, ht]
  refine hκ _ _ ?_
  refine sq ?_
  refine sr_ [1, 7, 22] [] [(2, 18)] fun κ ξ hκ hξ => ?_
  simp +decide only [go_sem]
  refine vo_gc ?_
  simp +decide only [go_sem]
  refine gcF (isid_w _) ?_
  simp +decide only [go_sem]
  refine hκ _ _ ?_
  refine cdt (by rfl) ?_
  refine sr_ [4, 5, 6] [] [] fun κ ξ hκ hξ => ?_
  simp +decide only [go_sem]
  refine hκ _ _ ?_
  refine rt ?_
  refine retE ?_
  simp +decide only [go_sem, resD, resV, ht]
  all_goals (cases h2 : idB x <;> simp [h2] at c0 ⊢)
 ·skip
  refine sr_ [1, 7, 8] [] [] fun κ ξ hκ hξ => ?_
  simp +decide only [go_sem]
  refine callR (places_w _ _) fun b _ => ?_
  simp +decide only [go_sem, ht]
  refine hκ _ _ ?_
  refine sq ?_
  refine sr_ [1, 7, 22] [] [(2, 18)] fun κ ξ hκ hξ => ?_
  simp +decide only [go_sem]
  refine vo_gc ?_
  simp +decide only [go_sem]
  refine gcF (isid_w _) ?_
  simp +decide only [go_sem]
  refine hκ _ _ ?_
  refine cd_ (fun c0 => ?_) (fun c0 => ?_)
  ·try simp only [go_sem] at c0
   refine sr_ [4, 5, 6] [] [] fun κ ξ hκ hξ => ?_
   simp +decide only [go_sem, c0]
   refine hκ _ _ ?_
   refine rt ?_
   refine retE ?_
   simp +decide only [go_sem, resD, resV, ht, c0]
   all_goals (cases h2 : idB x <;> simp [h2] at c0 ⊢)
  ·try simp only [go_sem] at c0
   refine sk ?_
   refine srz_ [(9, [])] [9, 10] [] [] fun κ ξ hκ hξ => ?_
   simp +decide only [go_sem, c0]
   intro b9 hb9
   refine hκ _ _ ?_
   refine sr_ [4, 5, 6] [] [] fun κ ξ hκ hξ => ?_
   simp +decide only [go_sem]
   refine hκ _ _ ?_
   refine rt ?_
   refine retE ?_
   simp +decide only [go_sem, resD, resV, ht, c0, hb9]
   all_goals (cases h2 : idB x <;> simp [h2] at c0 ⊢)
theorem get_w (l : List Nd) (t : Tok) (x : Int) : PCall Tryz.prog (.func 125) [.sl 5 (l.map nrow) t, .int .i64 x] (.tup [.int .i64 (if (treB l && idB x) = true then fi l x else 0), .int .i64 (gerr l x)]) := by
 refine PCall.le ?_
 refine fn_ Tryz.func125 (by rfl) (by rfl) (rs := [.tmp 4, .tmp 5]) (by rfl) (by simp [Tryz.f125]) ?_
 refine sr_ [0, 1] [] [] fun κ ξ hκ hξ => ?_
 simp +decide only [go_sem]
 refine hκ _ _ ?_
 refine sr_ [6, 7, 8] [] [] fun κ ξ hκ hξ => ?_
 simp +decide only [go_sem]
 refine callF (find_w _ _ _) ?_
 simp +decide only [go_sem]
 refine hκ _ _ ?_
 refine sq ?_
 refine sr_ [6, 8, 21] [] [(2, 18)] fun κ ξ hκ hξ => ?_
 simp +decide only [go_sem]
 refine hκ _ _ ?_
 refine cd_ (fun c0 => ?_) (fun c0 => ?_)
 ·try simp only [go_sem] at c0
  refine rr_ [6, 8] [] [] fun κ ξ hκ hξ => ?_
  simp +decide only [go_sem, c0]
  refine hκ _ _ ?_
  refine sr_ [4, 5] [] [] fun κ ξ hκ hξ => ?_
  simp +decide only [go_sem]
  refine hκ _ _ ?_
  refine rt ?_
  refine retE ?_
  simp +decide only [go_sem, resD, resV, c0]
  all_goals (unfold gerr; cases h1 : treB l <;> cases h2 : idB x <;> by_cases h3 : 0 ≤ idx l x <;> simp [h1, h2, h3] at c0 ⊢)
 ·try simp only [go_sem] at c0
  refine sk ?_
  refine sr_ [4, 5] [] [] fun κ ξ hκ hξ => ?_
  simp +decide only [go_sem]
  refine hκ _ _ ?_
  refine rt ?_
  refine retE ?_
  simp +decide only [go_sem, resD, resV, c0]
  all_goals (unfold gerr; cases h1 : treB l <;> cases h2 : idB x <;> by_cases h3 : 0 ≤ idx l x <;> simp [h1, h2, h3] at c0 ⊢)
theorem dep_w (l : List Nd) (t : Tok) (hs : l.length ≤ 1000000) : PCall Tryz.prog (.func 77) [.sl 5 (l.map nrow) t] (bif depB l then .tup [.sl 1 ((depL l l.length).map irow) .no, .bool true] else .tup [.sl 0 [] .nil, .bool false]) := by
 refine PCall.ok fun hok => ?_
 simp only [okAll, D.ok, okRows, and_true, true_and, lim_eq, inR_i64', inR_i32', inR_u8', inR_u16', inR_u64'] at hok
 obtain ⟨hl, hr⟩ := hok
 refine PCall.le ?_
 refine fn_ Tryz.func77 (by rfl) (by rfl) (rs := [.tmp 2, .tmp 3]) (by rfl) (by simp [Tryz.f77]) ?_
 refine sr_ [0] [] [] fun κ ξ hκ hξ => ?_
 simp +decide only [go_sem]
 refine hκ _ _ ?_
 refine sr_ [0, 4] [] [] fun κ ξ hκ hξ => ?_
 simp +decide only [go_sem]
 refine hκ _ _ ?_
 refine sq ?_
 refine sr_ [0, 4, 5] [] [] fun κ ξ hκ hξ => ?_
 simp +decide only [go_sem]
 refine hκ _ _ ?_
 refine bl ?_
 refine lp (α := Nat × Option (Nat × Nat)) (fun y => mk [(0, .sl 5 (l.map nrow) t), (4, apD 1 ((depL l y.1).map irow) y.2), (5, .int .i64 y.1)]) (fun y => apS 1 y.1 y.2) (fun y => (y.1 ≤ l.length ∧ apOK ((depL l y.1).map irow) y.2) ∧ (0 < y.1 → (nat l 0).par = 0 ∧ (nat l 0).kind = 1) ∧ ∀ j, 0 < j → j < y.1 → 0 ≤ pix l j ∧ stR (nat l j).kind (nat l (pix l j).toNat).kind = true) (fun y => l.length - y.1) (0, none) ⟨⟨⟨by omega, fun _ => rfl⟩, fun h => by omega, fun j h1 h2 => by omega⟩, EnvLe.of_eq rfl, .refl _⟩ ?_
 rintro ⟨i, o⟩ ⟨⟨hi, ho⟩, hro, hj⟩
 simp only at hi ho hro hj
 have hdl := depL_len l i
 refine sq ?_
 refine sr_ [0, 4, 5, 10] [] [] fun κ ξ hκ hξ => ?_
 simp +decide only [go_sem]
 refine hκ _ _ ?_
 refine cd_ (fun c0 => ?_) (fun c0 => ?_)
 ·try simp only [go_sem] at c0
  refine sk ?_
  refine sq ?_
  refine bl ?_
  refine sq ?_
  refine sr_ [0, 4, 5, 14] [] [] fun κ ξ hκ hξ => ?_
  simp +decide only [go_sem, c0]
  refine hκ _ _ ?_
  refine cd_ (fun c1 => ?_) (fun c1 => ?_)
  ·simp only [go_sem] at c1
   obtain rfl : i = 0 := by omega
   have hl2 : ((0 : Nat) : Int) < (l.length : Int) := by omega
   have hl3 : (0 : Int) < (l.length : Int) := by omega
   refine sr_ [0, 4, 5] [] [] fun κ ξ hκ hξ => ?_
   simp +decide only [go_sem, c1]
   refine napp_grow0 (by first | assumption | omega | (simp; done) | (simp; omega) | (intro hg; simp +decide only [go_sem, hg]; done) | (intro hg; simp +decide only [go_sem, hg]; omega)) (by first | (simp; done) | (simp [*]; done) | omega) rfl rfl (by simp +decide only [go_sem, Option.isSome_some]) tf220 tf221 tf36 (by refine ⟨⟨rfl, by decide, by decide⟩, by simp +decide only [go_sem], by simp, ?_⟩; simp [capB] <;> omega) ?_; intro b17 c17
   simp +decide only [go_sem]
   refine hκ _ _ ?_
   refine sq ?_
   refine sr_ [0, 4, 5, 29] [] [(5, 23)] fun κ ξ hκ hξ => ?_
   simp +decide only [go_sem, c1, hl3]
   refine hκ _ _ ?_
   refine cd_ (fun c2 => ?_) (fun c2 => ?_)
   ·try simp only [go_sem] at c2
    refine sr_ [2, 3] [] [] fun κ ξ hκ hξ => ?_
    simp +decide only [go_sem]
    refine hκ _ _ ?_
    refine rt ?_
    refine retE ?_
    simp +decide only [go_sem, resD, resV, c0, c1, hl2, hl3, c2]
    have hb : depB l = false := by
     rw [← Bool.not_eq_true, depB_true]
     rintro ⟨h, _⟩
     rcases h with h | h
     ·omega
     ·omega
    rw [hb]; rfl
   ·try simp only [go_sem] at c2
    refine sk ?_
    refine ex ?_
    refine rr_ [0, 4, 5] [] [] fun κ ξ hκ hξ => ?_
    simp +decide only [go_sem, c2]
    refine hκ _ _ ?_
    refine ⟨(0 + 1, some (b17, c17)), ⟨⟨⟨by omega, fun h => by cases h⟩, fun _ => c2, fun j h1 h2 => by simp only at h2; omega⟩, by simp only; omega⟩, EnvLe.of_eq ?_, ?_⟩
    ·rw [w64 (by omega), depL_succ, dpt_zero]; rfl
    ·exact .refl _
  ·simp only [go_sem] at c1
   obtain ⟨⟨bo, co⟩, rfl⟩ : ∃ p, o = some p := by
    cases o with
    | none =>
     have := ho rfl
     simp [depL] at this
     omega
    | some p => exact ⟨p, rfl⟩
   have hpl := pix_lt l i
   have hpg := pix_ge l i
   refine sk ?_
   refine srd_ [0, 4, 5, 6] [] [38] [] fun κ ξ hκ hξ => ?_
   simp +decide only [go_sem, c0, c1]
   repeat with_reducible refine an_ ?_
   refine scallF (ridx_w _ _ _) ?_
   simp +decide only [go_sem]
   have hpd : idx (List.take i l) (nat l i).par = pix l i := rfl
   refine hκ _ _ ?_
   refine sq ?_
   by_cases hp : 0 ≤ pix l i
   ·obtain ⟨k, hk, hki⟩ : ∃ k : Nat, pix l i = (k : Int) ∧ k < i := ⟨(pix l i).toNat, by omega, by omega⟩
    have hkl : (k : Int) < (l.length : Int) := by omega
    have hkn : ¬ (k : Int) < 0 := by omega
    have hkd : (k : Int) < ((depL l i).length : Int) := by omega
    have hkv : iat (depL l i) k = dpt l k := depL_at hki
    have hdk := dpt_le l k
    have hd1 := dpt_pos l k
    have hkw : IntKind.wrap .i64 (dpt l k + 1) = dpt l i := by
     rw [w64 (by omega), dpt_eq l i, if_pos hp, hk, Int.toNat_natCast]
    refine srd_ [0, 4, 5, 6, 54] [] [52] [(2, 41)] fun κ ξ hκ hξ => ?_
    simp +decide only [go_sem, c0, hpd, hk, hkl, hkn, apD]
    repeat with_reducible refine an_ ?_
    first
    | (refine vd_gc (by rfl) ?_; simp +decide only [go_sem, c0, c1, hpd, hk, hkl, hkn, hkd, hkv, hkw, apD]; refine gcallF (fun hg => ⟨by first | rfl | (simp +decide only [go_sem, hg, c0, c1, hpd, hk, hkl, hkn, hkd, hkv, hkw, apD]; done) | exact hg | simpa using hg, rstands_w _ _⟩) ?_)
    | (refine vd_gc (by rfl) ?_; simp +decide only [go_sem, c0, c1, hpd, hk, hkl, hkn, hkd, hkv, hkw, apD]; refine gcallF (d := .bool true) (fun hg => by first | cases hg | (simp at hg; done)) ?_)
    simp +decide only [go_sem]
    refine hκ _ _ ?_
    refine cd_ (fun c3 => ?_) (fun c3 => ?_)
    ·try simp only [go_sem] at c3
     refine sr_ [2, 3] [] [] fun κ ξ hκ hξ => ?_
     simp +decide only [go_sem, c3]
     refine hκ _ _ ?_
     refine rt ?_
     refine retE ?_
     simp +decide only [go_sem, resD, resV, c0, c1, hpd, hk, hkl, hkn, hkd, hkv, hkw, apD, c3]
     have hb : depB l = false := by
      rw [← Bool.not_eq_true, depB_true]
      rintro ⟨_, h⟩
      have := (h i (by omega) (by omega)).2
      rw [hk, Int.toNat_natCast] at this
      rw [this] at c3
      cases c3
     rw [hb]; rfl
    ·try simp only [go_sem] at c3
     refine sk ?_
     refine rr_ [0, 4, 5] [] [] fun κ ξ hκ hξ => ?_
     simp +decide only [go_sem, hkd, hkv, hkw, c3]
     repeat with_reducible refine an_ ?_
     refine napp_grow0 (o := some (bo, co)) (by first | assumption | omega | (simp; done) | (simp; omega) | (intro hg; simp +decide only [go_sem, hg]; done) | (intro hg; simp +decide only [go_sem, hg]; omega)) (by first | (simp; done) | (simp [*]; done) | omega) rfl rfl (by simp +decide only [go_sem, Option.isSome_some]) tf220 tf221 tf36 (by refine ⟨⟨rfl, by decide, by decide⟩, by simp +decide only [go_sem], by simp, ?_⟩; simp [capB] <;> omega) ?_; intro b62 c62
     simp +decide only [go_sem, apD]
     refine hκ _ _ ?_
     refine rr_ [0, 4, 5] [] [] fun κ ξ hκ hξ => ?_
     simp +decide only [go_sem]
     refine hκ _ _ ?_
     refine ⟨(i + 1, some (b62, c62)), ⟨⟨⟨by omega, fun h => by cases h⟩, fun _ => hro (by omega), fun j h1 h2 => ?_⟩, by simp only; omega⟩, EnvLe.of_eq ?_, ?_⟩
     ·rcases Nat.lt_succ_iff_lt_or_eq.1 h2 with h | rfl
      ·exact hj j h1 h
      ·rw [hk, Int.toNat_natCast]; exact ⟨by omega, c3⟩
     ·rw [w64 (by omega), depL_succ, List.map_append]; rfl
     ·exact .refl _
   ·have hpn : pix l i < 0 := by omega
    refine srd_ [0, 4, 5, 6, 54] [] [52] [(2, 41)] fun κ ξ hκ hξ => ?_
    simp +decide only [go_sem, c0, hpd, hpn]
    first
    | (refine vd_gc (by rfl) ?_; simp +decide only [go_sem, c0, c1, hpd, hpn]; refine gcallF (fun hg => ⟨by first | rfl | (simp +decide only [go_sem, hg, c0, c1, hpd, hpn]; done) | exact hg | simpa using hg, rstands_w _ _⟩) ?_)
    | (refine vd_gc (by rfl) ?_; simp +decide only [go_sem, c0, c1, hpd, hpn]; refine gcallF (d := .bool true) (fun hg => by first | cases hg | (simp at hg; done)) ?_)
    simp +decide only [go_sem]
    refine hκ _ _ ?_
    refine cdt (by rfl) ?_
    refine sr_ [2, 3] [] [] fun κ ξ hκ hξ => ?_
    simp +decide only [go_sem]
    refine hκ _ _ ?_
    refine rt ?_
    refine retE ?_
    simp +decide only [go_sem, resD, resV, c0, c1, hpd, hpn]
    have hb : depB l = false := by
     rw [← Bool.not_eq_true, depB_true]
     rintro ⟨_, h⟩
     have := (h i (by omega) (by omega)).1
     omega
    rw [hb]; rfl
 ·try simp only [go_sem] at c0
  refine ex ?_
  refine sr_ [2, 3] [] [] fun κ ξ hκ hξ => ?_
  simp +decide only [go_sem, c0]
  refine hκ _ _ ?_
  refine rt ?_
  refine retL ?_
  simp +decide only [go_sem, resD, resV, c0]
  have hb : depB l = true := by
   rw [depB_true]
   obtain rfl : i = l.length := by omega
   exact ⟨by omega, fun j h1 h2 => hj j h1 h2⟩
  obtain rfl : i = l.length := by omega
  rw [hb]
  exact DLe.tup ⟨apD_le 1 ho, DLe.refl _, trivial⟩
end Go.Proofs.YtinhjbnljbmbcaaGreat
/- The walks of the reference's Valid, Find and Kids. Printed by a tool of our own. -/
namespace Go.Proofs.YtinhjbnljbmbcaaGreat
open Go Go.RowKit
set_option linter.unusedSimpArgs false
set_option linter.unusedVariables false
set_option maxHeartbeats 4000000
set_option maxRecDepth 100000
attribute [local go_sem] List.length_map rowAt_n nrow rowAt_t trow rowAt_i irow
attribute [local go_sem] pl_getF pl_lookF pl_lookF' foldI
theorem rtre_w (l : List Nd) (t : Tok) : PCall Tryz.prog (.func 41) [.sl 5 (l.map nrow) t] (.bool (treB l)) := by
 refine PCall.ok fun hok => ?_
 simp only [okAll, D.ok, okRows, and_true, true_and, lim_eq, inR_i64', inR_i32', inR_u8', inR_u16', inR_u64'] at hok
 obtain ⟨hl, hr⟩ := hok; rw [List.length_map] at hl
 refine PCall.le ?_
 refine fn_ Tryz.func41 (by rfl) (by rfl) (rs := [.tmp 2]) (by rfl) (by simp [Tryz.f41]) ?_
 refine sr_ [0] [] [] fun κ ξ hκ hξ => ?_
 simp +decide only [go_sem]
 refine hκ _ _ ?_
 refine sq ?_
 refine sr_ [0, 15] [] [(3, 11)] fun κ ξ hκ hξ => ?_
 simp +decide only [go_sem, List.all_cons, List.all_nil, Bool.and_true]
 refine hκ _ _ ?_
 refine cd_ (fun c0 => ?_) (fun c0 => ?_)
 ·try simp only [go_sem] at c0
  refine sr_ [2] [] [] fun κ ξ hκ hξ => ?_
  simp +decide only [go_sem]
  refine hκ _ _ ?_
  refine rt ?_
  refine retE ?_
  simp +decide only [go_sem, resD, resV, Option.toArray_none, Option.toArray_some, Array.toList_append, List.all_append, List.all_cons, List.all_nil, Bool.and_true, c0]
  have hb : treB l = false := by
   rw [← Bool.not_eq_true, treB_true]
   intro h
   have := h.len
   omega
  simp [hb]
 ·try simp only [go_sem] at c0
  refine sk ?_
  refine sq ?_
  refine sr_ [0, 3] [] [] fun κ ξ hκ hξ => ?_
  simp +decide only [go_sem, c0]
  refine hκ _ _ ?_
  refine bl ?_
  refine lp (α := Nat) (fun i => mk [(0, .sl 5 (l.map nrow) t), (3, .int .i64 i)]) (fun _ => []) (fun i => i ≤ l.length ∧ ∀ j, j < i → fmB (nat l j) = true ∧ idx (l.take j) (nat l j).id = -1) (fun i => l.length - i) 0 ⟨⟨by omega, fun j h => by omega⟩, EnvLe.of_eq rfl, .refl _⟩ ?_
  rintro i ⟨hi, hj⟩
  refine sq ?_
  refine sr_ [0, 3, 19] [] [] fun κ ξ hκ hξ => ?_
  simp +decide only [go_sem]
  refine hκ _ _ ?_
  refine cd_ (fun c1 => ?_) (fun c1 => ?_)
  ·try simp only [go_sem] at c1
   refine sk ?_
   refine sq ?_
   refine bl ?_
   refine sr_ [0, 3, 4] [] [] fun κ ξ hκ hξ => ?_
   simp +decide only [go_sem, c1]
   repeat with_reducible refine an_ ?_
   refine callF (rnode_w _) ?_
   simp +decide only [go_sem]
   refine hκ _ _ ?_
   refine srd_ [0, 3, 40] [] [38] [(2, 29)] fun κ ξ hκ hξ => ?_
   simp +decide only [go_sem, Option.toArray_none, Option.toArray_some, Array.toList_append, List.all_cons, List.all_nil, Bool.and_true, c1]
   repeat with_reducible refine an_ ?_
   refine vd_gc (by rfl) ?_
   simp +decide only [go_sem, List.all_cons, List.all_nil, Bool.and_true]
   refine gcF (ridx_w _ _ _) ?_
   simp +decide only [go_sem, List.all_cons, List.all_nil, Bool.and_true]
   refine hκ _ _ ?_
   refine cd_ (fun c2 => ?_) (fun c2 => ?_)
   ·try simp only [go_sem] at c2
    refine sr_ [2] [] [] fun κ ξ hκ hξ => ?_
    simp +decide only [go_sem]
    refine hκ _ _ ?_
    refine rt ?_
    refine retE ?_
    simp +decide only [go_sem, resD, resV, Option.toArray_none, Option.toArray_some, Array.toList_append, List.all_append, List.all_cons, List.all_nil, Bool.and_true, c0, c1, c2]
    have hb : treB l = false := by
     rw [← Bool.not_eq_true, treB_true]
     intro h
     have h1 := h.form i (by omega)
     have h2 := h.once i (by omega)
     simp [h1, h2] at c2
    simp [hb]
   ·try simp only [go_sem] at c2
    refine sk ?_
    refine rr_ [0, 3] [] [] fun κ ξ hκ hξ => ?_
    simp +decide only [go_sem, c2]
    refine hκ _ _ ?_
    refine ⟨i + 1, ⟨⟨by omega, fun j h => ?_⟩, by omega⟩, EnvLe.of_eq (by rw [w64 (by omega)]; rfl), .refl _⟩
    rcases Nat.lt_succ_iff_lt_or_eq.1 h with h | rfl
    ·exact hj j h
    ·have := idx_ge (l.take j) (nat l j).id
     cases hf : fmB (nat l j) <;> simp [hf] at c2 ⊢
     omega
  ·try simp only [go_sem] at c1
   refine ex ?_
   have hdl := depL_len l l.length
   cases hd : depB l
   ·skip
    refine sr_ [5, 6] [] [] fun κ ξ hκ hξ => ?_
    simp +decide only [go_sem, c1]
    refine callF (dep_w _ _ (by omega)) ?_
    simp +decide only [go_sem, hd]
    refine hκ _ _ ?_
    refine sq ?_
    refine sr_ [5, 6, 7] [] [] fun κ ξ hκ hξ => ?_
    simp +decide only [go_sem]
    refine hκ _ _ ?_
    refine bl ?_
    refine lp (α := Nat) (fun i => mk [(5, .sl 0 [] .nil), (6, .bool false), (7, .int .i64 i)]) (fun _ => []) (fun i => i = 0) (fun i => 0) 0 ⟨rfl, EnvLe.of_eq rfl, .refl _⟩ ?_
    rintro i rfl
    refine sq ?_
    refine sr_ [5, 6, 7, 49] [] [] fun κ ξ hκ hξ => ?_
    simp +decide only [go_sem]
    refine hκ _ _ ?_
    refine cd_ (fun c3 => ?_) (fun c3 => ?_)
    ·exfalso; revert c3; simp
    ·skip
     refine ex ?_
     refine sr_ [2] [] [] fun κ ξ hκ hξ => ?_
     simp +decide only [go_sem]
     refine hκ _ _ ?_
     refine rt ?_
     refine retE ?_
     simp +decide only [go_sem, resD, resV, Option.toArray_none, Option.toArray_some, Array.toList_append, List.all_append, List.all_cons, List.all_nil, Bool.and_true, c0, c1, hd, hdl, c3]
     have h2 := tre_dep (by omega) (fun j hjl => hj j (by omega))
     rw [hd] at h2
     simp [h2]
   ·skip
    refine sr_ [5, 6] [] [] fun κ ξ hκ hξ => ?_
    simp +decide only [go_sem, c1]
    refine callF (dep_w _ _ (by omega)) ?_
    simp +decide only [go_sem, hd]
    refine hκ _ _ ?_
    refine sq ?_
    refine sr_ [5, 6, 7] [] [] fun κ ξ hκ hξ => ?_
    simp +decide only [go_sem]
    refine hκ _ _ ?_
    refine bl ?_
    refine lp (α := Nat) (fun i => mk [(5, .sl 1 ((depL l l.length).map irow) .no), (6, .bool true), (7, .int .i64 i)]) (fun _ => []) (fun i => i ≤ l.length ∧ ∀ j, j < i → dpt l j ≤ 30) (fun i => l.length - i) 0 ⟨⟨by omega, fun j h => by omega⟩, EnvLe.of_eq rfl, .refl _⟩ ?_
    rintro i ⟨hi, hj2⟩
    refine sq ?_
    refine sr_ [5, 6, 7, 49] [] [] fun κ ξ hκ hξ => ?_
    simp +decide only [go_sem, hdl]
    refine hκ _ _ ?_
    refine cd_ (fun c4 => ?_) (fun c4 => ?_)
    ·simp only [go_sem, hdl] at c4
     have hdi : iat (depL l l.length) i = dpt l i := depL_at (by omega)
     have hdb : (i : Int) < (depL l l.length).length := by rw [hdl]; omega
     refine sk ?_
     refine sq ?_
     refine bl ?_
     refine sr_ [5, 6, 7, 56] [] [] fun κ ξ hκ hξ => ?_
     simp +decide only [go_sem, hdl, c4, hdi]
     repeat with_reducible refine an_ ?_
     refine hκ _ _ ?_
     refine cd_ (fun c5 => ?_) (fun c5 => ?_)
     ·try simp only [go_sem] at c5
      refine sr_ [2] [] [] fun κ ξ hκ hξ => ?_
      simp +decide only [go_sem, c5]
      refine hκ _ _ ?_
      refine rt ?_
      refine retE ?_
      simp +decide only [go_sem, resD, resV, Option.toArray_none, Option.toArray_some, Array.toList_append, List.all_append, List.all_cons, List.all_nil, Bool.and_true, c0, c1, hd, hdl, c4, hdi, hdb, c5]
      have hb : treB l = false := by
       rw [← Bool.not_eq_true, treB_true]
       intro h
       have := h.deep i (by omega)
       omega
      simp [hb]
     ·try simp only [go_sem] at c5
      refine sk ?_
      refine rr_ [5, 6, 7] [] [] fun κ ξ hκ hξ => ?_
      simp +decide only [go_sem, c5]
      refine hκ _ _ ?_
      refine ⟨i + 1, ⟨⟨by omega, fun j h => ?_⟩, by omega⟩, EnvLe.of_eq (by rw [w64 (by omega)]; rfl), .refl _⟩
      rcases Nat.lt_succ_iff_lt_or_eq.1 h with h | rfl
      ·exact hj2 j h
      ·omega
    ·simp only [go_sem, hdl] at c4
     refine ex ?_
     refine sr_ [2] [] [] fun κ ξ hκ hξ => ?_
     simp +decide only [go_sem, c4]
     refine hκ _ _ ?_
     refine rt ?_
     refine retE ?_
     simp +decide only [go_sem, resD, resV, Option.toArray_none, Option.toArray_some, Array.toList_append, List.all_append, List.all_cons, List.all_nil, Bool.and_true, c0, c1, hd, hdl, c4]
     have h2 := tre_dep (by omega) (fun j hjl => hj j (by omega))
     rw [hd] at h2
     have h3 : treB l = true := by
      rw [h2]
      simp only [Bool.true_and, decide_eq_true_eq]
      exact fun j h => hj2 j (by omega)
     simp [h3]
end Go.Proofs.YtinhjbnljbmbcaaGreat

/- Claim: what the parts of a claim say. Printed by a tool of our own. -/
import Derived.Test.YtfjnohmdilmfhaaGreatDoorY06
namespace Go.Proofs.YtfjnohmdilmfhaaGreatDoor
open Go Go.RowKit
set_option linter.unusedSimpArgs false
set_option linter.unusedVariables false
set_option maxHeartbeats 4000000
set_option maxRecDepth 100000
theorem bx_few {l : List Bx} (h : fewB l = true) : l.length ≤ 40 ∧ ∀ j, j < l.length → (bxat l j).lines.length ≤ 40 := by
 unfold fewB at h
 rw [Bool.and_eq_true, decide_eq_true_eq, List.all_eq_true] at h
 exact ⟨h.2, fun j hj => of_decide_eq_true (h.1 _ (bxat_mem hj))⟩
theorem ysL_take {l : List Bx} {i : Nat} (h : i < l.length) : ysL (l.take (i + 1)) = ysL (l.take i) ++ (bxat l i).lines.map (·.y) := by
 unfold ysL bxat
 rw [List.take_succ_eq_append_getElem h, List.flatMap_append]
 simp [h]
theorem ysL_len {l : List Bx} (h : ∀ j, j < l.length → (bxat l j).lines.length ≤ 40) : ∀ i, i ≤ l.length → (ysL (l.take i)).length ≤ 40 * i
 | 0, _ => by simp [ysL]
 | i + 1, hi => by
  have := ysL_len h i (by omega)
  have := h i (by omega)
  rw [ysL_take (by omega), List.length_append, List.length_map]
  omega
theorem lines_take {b : Bx} {k : Nat} (h : k < b.lines.length) : (b.lines.take (k + 1)).map (·.y) = (b.lines.take k).map (·.y) ++ [(snat b.lines k).y] := by
 unfold snat
 rw [List.take_succ_eq_append_getElem h, List.map_append]
 simp [h]
theorem fitB_sn (b : Bx) : fitB b = (!b.cut && !b.lines.any fun s => !decide (b.x ≤ s.x ∧ b.y ≤ s.y ∧ s.x + s.w ≤ b.x + b.w ∧ s.y + s.h ≤ b.y + b.h)) := by
 unfold fitB
 rw [any_not, Bool.not_not]
attribute [local go_sem] List.length_map rowAt_n nrow rowAt_t trow rowAt_i irow
attribute [local go_sem] rowAt_c rowAt_sn rowAt_bx snrow bxrow
theorem nan_w (x : Int) : PCall Tryz.prog (.func 108) [.int .i64 x] (.bool false) := by
 refine PCall.le ?_
 refine fn_ Tryz.func108 (by rfl) (by rfl) (rs := [.tmp 2]) (by rfl) (by simp [Tryz.f108]) ?_
 refine sr_ [0] [] [] fun κ ξ hκ hξ => ?_
 try simp +decide only [go_sem]
 repeat with_reducible refine an_ ?_
 refine hκ _ _ ?_; clear hκ hξ ξ κ
 refine sr_ [2] [] [] fun κ ξ hκ hξ => ?_
 try simp +decide only [go_sem]
 repeat with_reducible refine an_ ?_
 refine hκ _ _ ?_; clear hκ hξ ξ κ
 refine rt ?_
 refine retE ?_
 simp +decide only [go_sem, resD, resV]
 
theorem less_w (x y : Int) : PCall Tryz.prog (.func 96) [.int .i64 x, .int .i64 y] (.bool (decide (x < y))) := by
 refine PCall.le ?_
 refine fn_ Tryz.func96 (by rfl) (by rfl) (rs := [.tmp 4]) (by rfl) (by simp [Tryz.f96]) ?_
 refine sr_ [0, 1] [] [] fun κ ξ hκ hξ => ?_
 try simp +decide only [go_sem]
 repeat with_reducible refine an_ ?_
 refine hκ _ _ ?_; clear hκ hξ ξ κ
 refine sr_ [4] [] [(2, 7), (7, 12)] fun κ ξ hκ hξ => ?_
 try simp +decide only [go_sem]
 repeat with_reducible refine an_ ?_
 refine callF (nan_w _) ?_
 try simp +decide only [go_sem]
 repeat with_reducible refine an_ ?_
 refine vo_gc ?_
 try simp +decide only [go_sem]
 refine gcF (nan_w _) ?_
 try simp +decide only [go_sem]
 repeat with_reducible refine an_ ?_
 refine hκ _ _ ?_; clear hκ hξ ξ κ
 refine rt ?_
 refine retE ?_
 simp +decide only [go_sem, resD, resV]
 all_goals simp
theorem iss_w (l : List Int) (t : Tok) : PCall Tryz.prog (.func 77) [.sl 1 (l.map irow) t] (.bool (srtd l)) := by
 refine PCall.ok fun hok => ?_
 simp only [okAll, D.ok, okRows, and_true, true_and, lim_eq, inR_i64', inR_i32', inR_u8', inR_u16', inR_u64'] at hok
 obtain ⟨hl, hr⟩ := hok; rw [List.length_map] at hl
 have hlw : IntKind.wrap .i64 ((l.length : Int) - 1) = (l.length : Int) - 1 := w64 (by omega)
 refine PCall.le ?_
 refine fn_ Tryz.func77 (by rfl) (by rfl) (rs := [.tmp 2]) (by rfl) (by simp [Tryz.f77]) ?_
 refine sr_ [0] [] [] fun κ ξ hκ hξ => ?_
 try simp +decide only [go_sem, hlw]
 repeat with_reducible refine an_ ?_
 refine hκ _ _ ?_; clear hκ hξ ξ κ
 refine sq ?_
 refine sr_ [0, 3] [] [] fun κ ξ hκ hξ => ?_
 try simp +decide only [go_sem, hlw]
 repeat with_reducible refine an_ ?_
 refine hκ _ _ ?_; clear hκ hξ ξ κ
 refine bl ?_
 refine lp (α := Int) (fun i => mk [(0, .sl 1 (l.map irow) t), (3, .int .i64 i)]) (fun _ => []) (fun i => (-1 ≤ i ∧ i ≤ (l.length : Int) - 1) ∧ ∀ j : Nat, i ≤ j → j < l.length - 1 → iat l j ≤ iat l (j + 1)) (fun i => i.toNat) ((l.length : Int) - 1) ⟨⟨by omega, by intro j h1 h2; omega⟩, EnvLe.of_eq rfl, .refl _⟩ ?_
 rintro i ⟨hi, hj⟩
 refine sq ?_
 refine sr_ [0, 3, 8] [] [] fun κ ξ hκ hξ => ?_
 try simp +decide only [go_sem, hlw]
 repeat with_reducible refine an_ ?_
 refine hκ _ _ ?_; clear hκ hξ ξ κ
 refine cd_ (fun c0 => ?_) (fun c0 => ?_)
 ·simp only [go_sem] at c0
  obtain ⟨k, rfl⟩ : ∃ k : Nat, i = ((k + 1 : Nat) : Int) := ⟨(i - 1).toNat, by omega⟩
  have hkw : IntKind.wrap .i64 (((k + 1 : Nat) : Int) - 1) = (k : Int) := by rw [w64 (by omega)]; omega
  have hk1 : ((k + 1 : Nat) : Int) < (l.length : Int) := by omega
  have hk2 : (k : Int) < (l.length : Int) := by omega
  refine sk ?_
  refine sq ?_
  refine bl ?_
  refine srd_ [0, 3, 20] [] [20] [] fun κ ξ hκ hξ => ?_
  try simp +decide only [go_sem, hlw, c0, hkw, hk1, hk2]
  repeat with_reducible refine an_ ?_
  refine scallF (less_w _ _) ?_
  try simp +decide only [go_sem, hlw, c0, hkw, hk1, hk2]
  repeat with_reducible refine an_ ?_
  refine hκ _ _ ?_; clear hκ hξ ξ κ
  refine cd_ (fun c1 => ?_) (fun c1 => ?_)
  ·try simp only [go_sem] at c1
   refine sr_ [2] [] [] fun κ ξ hκ hξ => ?_
   try simp +decide only [go_sem, hlw, c0, hkw, hk1, hk2, c1]
   repeat with_reducible refine an_ ?_
   refine hκ _ _ ?_; clear hκ hξ ξ κ
   refine rt ?_
   refine retE ?_
   simp +decide only [go_sem, resD, resV, hlw, c0, hkw, hk1, hk2, c1]
   congr 1
   unfold srtd
   symm
   rw [decide_eq_false_iff_not]
   intro h
   have := h k (by omega)
   omega
  ·try simp only [go_sem] at c1
   refine sk ?_
   refine rr_ [0, 3] [] [] fun κ ξ hκ hξ => ?_
   try simp +decide only [go_sem, hlw, c0, hkw, hk1, hk2, c1]
   repeat with_reducible refine an_ ?_
   refine hκ _ _ ?_; clear hκ hξ ξ κ
   refine ⟨(k : Int), ⟨⟨by omega, ?_⟩, by omega⟩, EnvLe.of_eq rfl, .refl _⟩
   intro j h1 h2
   rcases Nat.lt_or_ge k j with h | h
   ·exact hj j (by omega) h2
   ·obtain rfl : j = k := by omega
    omega
 ·simp only [go_sem] at c0
  refine ex ?_
  refine sr_ [2] [] [] fun κ ξ hκ hξ => ?_
  try simp +decide only [go_sem, hlw, c0]
  repeat with_reducible refine an_ ?_
  refine hκ _ _ ?_; clear hκ hξ ξ κ
  refine rt ?_
  refine retE ?_
  simp +decide only [go_sem, resD, resV, hlw, c0]
  congr 1
  unfold srtd
  symm
  rw [decide_eq_true_eq]
  intro j h
  exact hj j (by omega) h
theorem fd1_w (b : Bx) (x : Int) : PCall Tryz.prog (.func 75) [.ag [.int .i64 b.node, .int .i64 b.x, .int .i64 b.y, .int .i64 b.w, .int .i64 b.h, .bool b.cut, .sl 5 (b.lines.map snrow) .no], .el [.int .i64 x]] (.bool (decide (b.node = x))) := by
 refine PCall.le ?_
 refine fn_ Tryz.func75 (by rfl) (by rfl) (rs := [.tmp 3]) (by rfl) (by simp [Tryz.f75]) ?_
 refine sr_ [1, 2] [2] [] fun κ ξ hκ hξ => ?_
 try simp +decide only [go_sem]
 repeat with_reducible refine an_ ?_
 refine hκ _ _ ?_; clear hκ hξ ξ κ
 refine sr_ [3] [] [] fun κ ξ hκ hξ => ?_
 try simp +decide only [go_sem]
 repeat with_reducible refine an_ ?_
 refine hκ _ _ ?_; clear hκ hξ ξ κ
 refine rt ?_
 refine retE ?_
 simp +decide only [go_sem, resD, resV]
 
theorem find_w (l : List Bx) (t : Tok) (x : Int) : PCall Tryz.prog (.func 44) [.sl 7 (l.map bxrow) t, .int .i64 x] (.tup [.ag (bxrow (fnB l x)), .bool (fnH l x)]) := by
 refine PCall.le ?_
 refine fn_ Tryz.func44 (by rfl) (by rfl) (rs := [.cell 4 45, .tmp 5]) (by rfl) (by simp [Tryz.f44]) ?_
 refine sr_ [0, 3, 4] [3] [] fun κ ξ hκ hξ => ?_
 try simp +decide only [go_sem]
 repeat with_reducible refine an_ ?_
 intro b4 hb4
 try simp +decide only [go_sem, hb4]
 repeat with_reducible refine an_ ?_
 refine hκ _ _ ?_; clear hκ hξ ξ κ
 refine sr_ [0, 4, 6] [] [] fun κ ξ hκ hξ => ?_
 try simp +decide only [go_sem, hb4]
 repeat with_reducible refine an_ ?_
 refine callF (ifbx_w 75 [.el [.int .i64 x]] (fun b => decide (b.node = x)) l t fun i hi => fd1_w _ x) ?_
 try simp +decide only [go_sem, hb4]
 repeat with_reducible refine an_ ?_
 refine hκ _ _ ?_; clear hκ hξ ξ κ
 refine sq ?_
 refine sr_ [0, 4, 6, 11] [] [] fun κ ξ hκ hξ => ?_
 try simp +decide only [go_sem, hb4]
 repeat with_reducible refine an_ ?_
 refine hκ _ _ ?_; clear hκ hξ ξ κ
 refine cd_ (fun c0 => ?_) (fun c0 => ?_)
 ·simp only [go_sem] at c0
  have hf : fnd l x = none := by
   rcases bix_cases l x with ⟨i, h1, h2, h3⟩ | ⟨h1, h2⟩
   ·unfold bix at h2; omega
   ·exact h2
  refine sr_ [4, 5] [] [] fun κ ξ hκ hξ => ?_
  try simp +decide only [go_sem, hb4, c0]
  repeat with_reducible refine an_ ?_
  refine hκ _ _ ?_; clear hκ hξ ξ κ
  refine rt ?_
  refine retL ?_
  simp +decide only [go_sem, resD, resV, hb4, c0]
  unfold fnB fnH
  rw [hf]
  exact DLe.tup ⟨DLe.ag ⟨DLe.refl _, DLe.refl _, DLe.refl _, DLe.refl _, DLe.refl _, DLe.refl _, DLe.nil _ _ _, trivial⟩, DLe.refl _, trivial⟩
 ·simp only [go_sem] at c0
  obtain ⟨i, hil, hix, hf⟩ : ∃ i, i < l.length ∧ fixI (fun b : Bx => decide (b.node = x)) l = (i : Int) ∧ fnd l x = some (bxat l i) := by
   rcases bix_cases l x with ⟨i, h1, h2, h3⟩ | ⟨h1, h2⟩
   ·exact ⟨i, h1, h2, h3⟩
   ·unfold bix at h1; omega
  have hil2 : (i : Int) < (l.length : Int) := by omega
  refine sk ?_
  refine sr_ [4, 5] [] [] fun κ ξ hκ hξ => ?_
  try simp +decide only [go_sem, hb4, c0, hix, hil2]
  repeat with_reducible refine an_ ?_
  refine hκ _ _ ?_; clear hκ hξ ξ κ
  refine rt ?_
  refine retE ?_
  simp +decide only [go_sem, resD, resV, hb4, c0, hix, hil2]
  unfold fnB fnH
  rw [hf]
  rfl
theorem ft1_w (s : Sn) (b : Bx) (hb : ((-1000000000 ≤ b.x ∧ b.x ≤ 1000000000) ∧ (-1000000000 ≤ b.y ∧ b.y ≤ 1000000000) ∧ (0 ≤ b.w ∧ b.w ≤ 1000000000) ∧ (0 ≤ b.h ∧ b.h ≤ 1000000000))) (hs : ((-1000000000 ≤ s.x ∧ s.x ≤ 1000000000) ∧ (-1000000000 ≤ s.y ∧ s.y ≤ 1000000000) ∧ (0 ≤ s.w ∧ s.w ≤ 1000000000) ∧ (0 ≤ s.h ∧ s.h ≤ 1000000000))) : PCall Tryz.prog (.func 76) [.ag [.str s.txt, .int .i64 s.x, .int .i64 s.y, .int .i64 s.w, .int .i64 s.h], .el [.int .i64 b.node, .int .i64 b.x, .int .i64 b.y, .int .i64 b.w, .int .i64 b.h, .bool b.cut, .sl 5 (b.lines.map snrow) .no]] (.bool ((fun s : Sn => !decide (b.x ≤ s.x ∧ b.y ≤ s.y ∧ s.x + s.w ≤ b.x + b.w ∧ s.y + s.h ≤ b.y + b.h)) s)) := by
 obtain ⟨⟨hx1, hx2⟩, ⟨hy1, hy2⟩, ⟨hw1, hw2⟩, ⟨hh1, hh2⟩⟩ := hb
 obtain ⟨⟨sx1, sx2⟩, ⟨sy1, sy2⟩, ⟨sw1, sw2⟩, ⟨sh1, sh2⟩⟩ := hs
 have e1 : IntKind.wrap .i64 (s.x + s.w) = s.x + s.w := w64 (by omega)
 have e2 : IntKind.wrap .i64 (s.y + s.h) = s.y + s.h := w64 (by omega)
 have e3 : IntKind.wrap .i64 (b.x + b.w) = b.x + b.w := w64 (by omega)
 have e4 : IntKind.wrap .i64 (b.y + b.h) = b.y + b.h := w64 (by omega)
 refine PCall.le ?_
 refine fn_ Tryz.func76 (by rfl) (by rfl) (rs := [.tmp 3]) (by rfl) (by simp [Tryz.f76]) ?_
 refine sr_ [1, 2] [2] [] fun κ ξ hκ hξ => ?_
 try simp +decide only [go_sem, e1, e2, e3, e4]
 repeat with_reducible refine an_ ?_
 refine hκ _ _ ?_; clear hκ hξ ξ κ
 refine sr_ [3] [] [(5, 9), (12, 16), (25, 29)] fun κ ξ hκ hξ => ?_
 try simp +decide only [go_sem, e1, e2, e3, e4]
 repeat with_reducible refine an_ ?_
 refine hκ _ _ ?_; clear hκ hξ ξ κ
 refine rt ?_
 refine retE ?_
 simp +decide only [go_sem, resD, resV, e1, e2, e3, e4]
 all_goals congr 1
 all_goals rw [Bool.eq_iff_iff]
 all_goals simp
 all_goals omega
theorem fits_w (b : Bx) (hb : bxO b = true) : PCall Tryz.prog (.func 45) [.ag [.int .i64 b.node, .int .i64 b.x, .int .i64 b.y, .int .i64 b.w, .int .i64 b.h, .bool b.cut, .sl 5 (b.lines.map snrow) .no]] (.bool (fitB b)) := by
 refine PCall.le ?_
 refine fn_ Tryz.func45 (by rfl) (by rfl) (rs := [.tmp 2]) (by rfl) (by simp [Tryz.f45]) ?_
 refine sr_ [1] [1] [] fun κ ξ hκ hξ => ?_
 try simp +decide only [go_sem]
 repeat with_reducible refine an_ ?_
 refine hκ _ _ ?_; clear hκ hξ ξ κ
 refine sr_ [1, 3] [] [] fun κ ξ hκ hξ => ?_
 try simp +decide only [go_sem]
 repeat with_reducible refine an_ ?_
 refine hκ _ _ ?_; clear hκ hξ ξ κ
 refine sr_ [2] [] [(3, 8)] fun κ ξ hκ hξ => ?_
 try simp +decide only [go_sem]
 repeat with_reducible refine an_ ?_
 refine vo_gc ?_
 try simp +decide only [go_sem, true_and]
 refine gcF (cfsn_w 76 [.el [.int .i64 b.node, .int .i64 b.x, .int .i64 b.y, .int .i64 b.w, .int .i64 b.h, .bool b.cut, .sl 5 (b.lines.map snrow) .no]] (fun s : Sn => !decide (b.x ≤ s.x ∧ b.y ≤ s.y ∧ s.x + s.w ≤ b.x + b.w ∧ s.y + s.h ≤ b.y + b.h)) b.lines .no fun k hk => ft1_w _ b (bxO_1 hb) (bxO_2 hb hk).1) ?_
 try simp +decide only [go_sem]
 repeat with_reducible refine an_ ?_
 refine hκ _ _ ?_; clear hκ hξ ξ κ
 refine rt ?_
 refine retE ?_
 simp +decide only [go_sem, resD, resV]
 all_goals congr 1
 all_goals rw [fitB_sn]
 all_goals cases b.cut <;> rfl
theorem apt_w (a b : Bx) (ha : bxO a = true) (hb : bxO b = true) : PCall Tryz.prog (.func 46) [.ag [.int .i64 a.node, .int .i64 a.x, .int .i64 a.y, .int .i64 a.w, .int .i64 a.h, .bool a.cut, .sl 5 (a.lines.map snrow) .no], .ag [.int .i64 b.node, .int .i64 b.x, .int .i64 b.y, .int .i64 b.w, .int .i64 b.h, .bool b.cut, .sl 5 (b.lines.map snrow) .no]] (.bool (aptB a b)) := by
 have ha1 := bxO_1 ha
 have hb1 := bxO_1 hb
 have e1 : IntKind.wrap .i64 (a.x + a.w) = a.x + a.w := w64 (by omega)
 have e2 : IntKind.wrap .i64 (b.x + b.w) = b.x + b.w := w64 (by omega)
 have e3 : IntKind.wrap .i64 (a.y + a.h) = a.y + a.h := w64 (by omega)
 have e4 : IntKind.wrap .i64 (b.y + b.h) = b.y + b.h := w64 (by omega)
 have m1 : -2000000000 ≤ mnI (a.x + a.w) (b.x + b.w) ∧ mnI (a.x + a.w) (b.x + b.w) ≤ 2000000000 := by unfold mnI; split <;> omega
 have m2 : -2000000000 ≤ mxI a.x b.x ∧ mxI a.x b.x ≤ 2000000000 := by unfold mxI; split <;> omega
 have m3 : -2000000000 ≤ mnI (a.y + a.h) (b.y + b.h) ∧ mnI (a.y + a.h) (b.y + b.h) ≤ 2000000000 := by unfold mnI; split <;> omega
 have m4 : -2000000000 ≤ mxI a.y b.y ∧ mxI a.y b.y ≤ 2000000000 := by unfold mxI; split <;> omega
 have e5 : IntKind.wrap .i64 (mnI (a.x + a.w) (b.x + b.w) - mxI a.x b.x) = mnI (a.x + a.w) (b.x + b.w) - mxI a.x b.x := w64 (by omega)
 have e6 : IntKind.wrap .i64 (mnI (a.y + a.h) (b.y + b.h) - mxI a.y b.y) = mnI (a.y + a.h) (b.y + b.h) - mxI a.y b.y := w64 (by omega)
 refine PCall.le ?_
 refine fn_ Tryz.func46 (by rfl) (by rfl) (rs := [.tmp 4]) (by rfl) (by simp [Tryz.f46]) ?_
 refine sr_ [2, 3] [2, 3] [] fun κ ξ hκ hξ => ?_
 try simp +decide only [go_sem, e1, e2, e3, e4, e5, e6]
 repeat with_reducible refine an_ ?_
 refine hκ _ _ ?_; clear hκ hξ ξ κ
 refine sr_ [2, 3, 5] [] [] fun κ ξ hκ hξ => ?_
 try simp +decide only [go_sem, e1, e2, e3, e4, e5, e6]
 repeat with_reducible refine an_ ?_
 refine hκ _ _ ?_; clear hκ hξ ξ κ
 refine sr_ [5, 6] [] [] fun κ ξ hκ hξ => ?_
 try simp +decide only [go_sem, e1, e2, e3, e4, e5, e6]
 repeat with_reducible refine an_ ?_
 refine hκ _ _ ?_; clear hκ hξ ξ κ
 refine sr_ [4] [] [(2, 43)] fun κ ξ hκ hξ => ?_
 try simp +decide only [go_sem, e1, e2, e3, e4, e5, e6]
 repeat with_reducible refine an_ ?_
 refine hκ _ _ ?_; clear hκ hξ ξ κ
 refine rt ?_
 refine retE ?_
 simp +decide only [go_sem, resD, resV, e1, e2, e3, e4, e5, e6]
 all_goals congr 1
 all_goals unfold aptB
 all_goals rw [Bool.eq_iff_iff]
 all_goals simp
theorem ord_w (l : List Bx) (t : Tok) (hf : fewB l = true) : PCall Tryz.prog (.func 47) [.sl 7 (l.map bxrow) t] (.bool (srtd (ysL l))) := by
 refine PCall.ok fun hok => ?_
 simp only [okAll, D.ok, okRows, and_true, true_and, lim_eq, inR_i64', inR_i32', inR_u8', inR_u16', inR_u64'] at hok
 obtain ⟨hl, hr⟩ := hok; rw [List.length_map] at hl
 obtain ⟨hf1, hf2⟩ := bx_few hf
 refine PCall.le ?_
 refine fn_ Tryz.func47 (by rfl) (by rfl) (rs := [.tmp 2]) (by rfl) (by simp [Tryz.f47]) ?_
 refine sr_ [0] [] [] fun κ ξ hκ hξ => ?_
 try simp +decide only [go_sem]
 repeat with_reducible refine an_ ?_
 refine hκ _ _ ?_; clear hκ hξ ξ κ
 refine sr_ [0, 3] [] [] fun κ ξ hκ hξ => ?_
 try simp +decide only [go_sem]
 repeat with_reducible refine an_ ?_
 refine hκ _ _ ?_; clear hκ hξ ξ κ
 refine sq ?_
 refine sr_ [3, 8, 9, 10] [] [] fun κ ξ hκ hξ => ?_
 try simp +decide only [go_sem]
 repeat with_reducible refine an_ ?_
 refine hκ _ _ ?_; clear hκ hξ ξ κ
 refine bl ?_
 refine lp (α := Nat × Option (Nat × Nat)) (fun x => mk [(3, apD 1 ((ysL (l.take x.1)).map irow) x.2), (8, .sl 7 (l.map bxrow) t), (9, .int .i64 l.length), (10, .int .i64 x.1)]) (fun x => apS 1 (ysL (l.take x.1)).length x.2) (fun x => x.1 ≤ l.length ∧ apOK ((ysL (l.take x.1)).map irow) x.2) (fun x => l.length - x.1) (0, none) ⟨⟨by omega, fun _ => rfl⟩, EnvLe.of_eq rfl, .refl _⟩ ?_
 rintro ⟨i, o⟩ ⟨hi, ho⟩
 simp only at hi ho
 refine sr_ [3, 8, 9, 10, 11] [] [] fun κ ξ hκ hξ => ?_
 try simp +decide only [go_sem]
 repeat with_reducible refine an_ ?_
 refine hκ _ _ ?_; clear hκ hξ ξ κ
 refine sq ?_
 refine cd_ (fun c0 => ?_) (fun c0 => ?_)
 ·simp only [go_sem] at c0
  have hil : i < l.length := by omega
  have hf3 := hf2 i hil
  have hyl := ysL_len hf2 i (by omega)
  refine sk ?_
  refine sq ?_
  refine bl ?_
  refine srz_ [(5, [])] [3, 5, 8, 9, 10] [] [] fun κ ξ hκ hξ => ?_
  try simp +decide only [go_sem, c0]
  repeat with_reducible refine an_ ?_
  intro b5 hb5
  try simp +decide only [go_sem, c0, hb5]
  repeat with_reducible refine an_ ?_
  refine hκ _ _ ?_; clear hκ hξ ξ κ
  refine sr_ [3, 8, 9, 10, 15, 16, 17] [] [] fun κ ξ hκ hξ => ?_
  try simp +decide only [go_sem, c0, hb5]
  repeat with_reducible refine an_ ?_
  refine hκ _ _ ?_; clear hκ hξ ξ κ
  refine bl ?_
  refine lp (α := Nat × Option (Nat × Nat)) (fun x => mk [(3, apD 1 ((ysL (l.take i) ++ ((bxat l i).lines.take x.1).map (·.y)).map irow) x.2), (8, .sl 7 (l.map bxrow) t), (9, .int .i64 l.length), (10, .int .i64 i), (15, .sl 5 ((bxat l i).lines.map snrow) .no), (16, .int .i64 (bxat l i).lines.length), (17, .int .i64 x.1)]) (fun x => apS 1 (ysL (l.take i) ++ ((bxat l i).lines.take x.1).map (·.y)).length x.2) (fun x => x.1 ≤ (bxat l i).lines.length ∧ apOK ((ysL (l.take i) ++ ((bxat l i).lines.take x.1).map (·.y)).map irow) x.2) (fun x => (bxat l i).lines.length - x.1) (0, o) ⟨⟨by omega, by simpa using ho⟩, EnvLe.of_eq (by simp), by simp⟩ ?_
  rintro ⟨k, o2⟩ ⟨hk, ho2⟩
  simp only at hk ho2
  refine sr_ [3, 8, 9, 10, 15, 16, 17, 18] [] [] fun κ ξ hκ hξ => ?_
  try simp +decide only [go_sem, c0, hb5]
  repeat with_reducible refine an_ ?_
  refine hκ _ _ ?_; clear hκ hξ ξ κ
  refine sq ?_
  refine cd_ (fun c1 => ?_) (fun c1 => ?_)
  ·simp only [go_sem] at c1
   have hkl : k < (bxat l i).lines.length := by omega
   have hkt : ((bxat l i).lines.take k).length ≤ k := List.length_take_le ..
   refine sk ?_
   refine sq ?_
   refine bl ?_
   refine srz_ [(7, [])] [3, 7, 8, 9, 10, 15, 16, 17] [] [] fun κ ξ hκ hξ => ?_
   try simp +decide only [go_sem, c0, hb5, c1]
   repeat with_reducible refine an_ ?_
   intro b7 hb7
   try simp +decide only [go_sem, c0, hb5, c1, hb7]
   repeat with_reducible refine an_ ?_
   refine hκ _ _ ?_; clear hκ hξ ξ κ
   refine rr_ [3, 8, 9, 10, 15, 16, 17] [] [] fun κ ξ hκ hξ => ?_
   try simp +decide only [go_sem, c0, hb5, c1, hb7]
   repeat with_reducible refine an_ ?_
   refine napp_grow0 (by first | assumption | omega | (simp; done) | (simp; omega) | (intro hg; simp +decide only [go_sem, hg]; done) | (intro hg; simp +decide only [go_sem, hg]; omega)) (by first | (simp; done) | (simp [*]; done) | omega) rfl rfl (by simp +decide only [go_sem, Option.isSome_some]) tf325 tf326 tf36 (by refine ⟨⟨rfl, by decide, by decide⟩, by simp +decide only [go_sem], by simp, ?_⟩; simp [capB] <;> omega) ?_; intro b25 c25
   try simp +decide only [go_sem, c0, hb5, c1, hb7]
   repeat with_reducible refine an_ ?_
   refine hκ _ _ ?_; clear hκ hξ ξ κ
   refine rr_ [3, 8, 9, 10, 15, 16, 17] [] [] fun κ ξ hκ hξ => ?_
   try simp +decide only [go_sem, c0, hb5, c1, hb7]
   repeat with_reducible refine an_ ?_
   refine hκ _ _ ?_; clear hκ hξ ξ κ
   have e : ysL (l.take i) ++ ((bxat l i).lines.take (k + 1)).map (·.y) = (ysL (l.take i) ++ ((bxat l i).lines.take k).map (·.y)) ++ [(snat (bxat l i).lines k).y] := by rw [lines_take hkl, List.append_assoc]
   refine ⟨(k + 1, some (b25, c25)), ⟨⟨by omega, fun h => by cases h⟩, by omega⟩, EnvLe.of_eq ?_, ?_⟩
   ·rw [w64 (by omega), e, List.map_append (l₁ := (ysL (l.take i) ++ ((bxat l i).lines.take k).map (·.y)))]; rfl
   ·rw [e, @List.length_append _ (ysL (l.take i) ++ ((bxat l i).lines.take k).map (·.y))]; exact .refl _
  ·simp only [go_sem] at c1
   refine ex ?_
   refine rr_ [3, 8, 9, 10] [] [] fun κ ξ hκ hξ => ?_
   try simp +decide only [go_sem, c0, hb5, c1]
   repeat with_reducible refine an_ ?_
   refine hκ _ _ ?_; clear hκ hξ ξ κ
   obtain rfl : k = (bxat l i).lines.length := by omega
   have e := ysL_take hil
   rw [List.take_length] at ho2
   rw [← e] at ho2
   refine ⟨(i + 1, o2), ⟨⟨by omega, ho2⟩, by omega⟩, EnvLe.of_eq ?_, ?_⟩
   ·rw [w64 (by omega), e, List.take_length]; rfl
   ·rw [e, List.take_length]; exact .refl _
 ·simp only [go_sem] at c0
  refine ex ?_
  refine sq ?_
  have e0 : l.take i = l := List.take_of_length_le (by omega)
  rw [e0] at ho ⊢
  refine rr_ [2] [] [] fun κ ξ hκ hξ => ?_
  try simp +decide only [go_sem, c0]
  repeat with_reducible refine an_ ?_
  refine callF (PCall.args (iss_w (ysL l) .no) ⟨apD_le 1 ho, trivial⟩) ?_
  try simp +decide only [go_sem, c0]
  repeat with_reducible refine an_ ?_
  refine hκ _ _ ?_; clear hκ hξ ξ κ
  refine rt ?_
  refine retE ?_
  simp +decide only [go_sem, resD, resV, c0]
  
theorem fl1_w (s : Sn) (n : Int) : PCall Tryz.prog (.func 78) [.ag [.str s.txt, .int .i64 s.x, .int .i64 s.y, .int .i64 s.w, .int .i64 s.h], .el [.int .i64 n]] (.bool (!decide (n ≤ wdN s.txt))) := by
 refine PCall.le ?_
 refine fn_ Tryz.func78 (by rfl) (by rfl) (rs := [.tmp 3]) (by rfl) (by simp [Tryz.f78]) ?_
 refine sr_ [1, 2] [2] [] fun κ ξ hκ hξ => ?_
 try simp +decide only [go_sem]
 repeat with_reducible refine an_ ?_
 refine hκ _ _ ?_; clear hκ hξ ξ κ
 refine sr_ [1, 4] [] [] fun κ ξ hκ hξ => ?_
 try simp +decide only [go_sem]
 repeat with_reducible refine an_ ?_
 refine callF (twd_w _) ?_
 try simp +decide only [go_sem]
 repeat with_reducible refine an_ ?_
 refine hκ _ _ ?_; clear hκ hξ ξ κ
 refine sr_ [3] [] [] fun κ ξ hκ hξ => ?_
 try simp +decide only [go_sem]
 repeat with_reducible refine an_ ?_
 refine hκ _ _ ?_; clear hκ hξ ξ κ
 refine rt ?_
 refine retE ?_
 simp +decide only [go_sem, resD, resV]
 all_goals congr 1
 all_goals rw [Bool.eq_iff_iff]
 all_goals simp
 all_goals omega
theorem full_w (b : Bx) (n : Int) : PCall Tryz.prog (.func 48) [.ag [.int .i64 b.node, .int .i64 b.x, .int .i64 b.y, .int .i64 b.w, .int .i64 b.h, .bool b.cut, .sl 5 (b.lines.map snrow) .no], .int .i64 n] (.bool (fulB b n)) := by
 refine PCall.ok fun hok => ?_
 simp only [okAll, D.ok, okRows, and_true, true_and, lim_eq, inR_i64', inR_i32', inR_u8', inR_u16', inR_u64'] at hok
 simp only [okAll, D.ok, okRows, and_true, true_and, lim_eq, inR_i64', List.length_map] at hok
 obtain ⟨⟨h1, h2, h3, h4, h5, hl, hr⟩, hn⟩ := hok
 have hlw : IntKind.wrap .i64 ((b.lines.length : Int) - 1) = (b.lines.length : Int) - 1 := w64 (by omega)
 have hlt : ((b.lines.length : Int) - 1).toNat = b.lines.length - 1 := by omega
 refine PCall.le ?_
 refine fn_ Tryz.func48 (by rfl) (by rfl) (rs := [.tmp 4]) (by rfl) (by simp [Tryz.f48]) ?_
 refine sr_ [2, 3] [2, 3] [] fun κ ξ hκ hξ => ?_
 try simp +decide only [go_sem, hlw, hlt, Option.toArray_none, Option.toArray_some, Array.toList_append, List.all_append]
 repeat with_reducible refine an_ ?_
 refine hκ _ _ ?_; clear hκ hξ ξ κ
 refine sr_ [2, 5] [] [] fun κ ξ hκ hξ => ?_
 try simp +decide only [go_sem, hlw, hlt, Option.toArray_none, Option.toArray_some, Array.toList_append, List.all_append]
 repeat with_reducible refine an_ ?_
 refine hκ _ _ ?_; clear hκ hξ ξ κ
 refine sr_ [4] [] [(4, 11)] fun κ ξ hκ hξ => ?_
 try simp +decide only [go_sem, hlw, hlt, Option.toArray_none, Option.toArray_some, Array.toList_append, List.all_append]
 repeat with_reducible refine an_ ?_
 refine vo_gc ?_
 try simp +decide only [go_sem, hlw, hlt, Option.toArray_none, Option.toArray_some, Array.toList_append, List.all_append]
 refine gcF (cfsn_w 78 [.el [.int .i64 n]] (fun s => !decide (n ≤ wdN s.txt)) (b.lines.take (b.lines.length - 1)) .no fun k hk => fl1_w _ n) ?_
 try simp +decide only [go_sem, hlw, hlt, Option.toArray_none, Option.toArray_some, Array.toList_append, List.all_append]
 repeat with_reducible refine an_ ?_
 refine hκ _ _ ?_; clear hκ hξ ξ κ
 refine rt ?_
 refine retE ?_
 simp +decide only [go_sem, resD, resV, hlw, hlt, Option.toArray_none, Option.toArray_some, Array.toList_append, List.all_append]
 all_goals congr 1
 all_goals unfold fulB
 all_goals rw [any_not, Bool.not_not, ← List.dropLast_eq_take]
 all_goals by_cases h : b.lines.length = 0 <;> simp [h]
 all_goals (rw [List.length_eq_zero_iff] at h; simp [h])
end Go.Proofs.YtfjnohmdilmfhaaGreatDoor
/- Claim: what the reference says of boxes. Printed by a tool of our own. -/
namespace Go.Proofs.YtfjnohmdilmfhaaGreatDoor
open Go Go.RowKit
set_option linter.unusedSimpArgs false
set_option linter.unusedVariables false
set_option maxHeartbeats 4000000
set_option maxRecDepth 100000
theorem all_at_sn {p : Sn → Bool} {l : List Sn} (h : ∀ j, j < l.length → p (snat l j) = true) : l.all p = true := by
 rw [List.all_eq_true]
 intro s hs
 obtain ⟨j, hj, rfl⟩ := List.getElem_of_mem hs
 have := h j hj
 unfold snat at this
 simpa [hj] using this
theorem all_no_sn {p : Sn → Bool} {l : List Sn} {j : Nat} (hj : j < l.length) (h : p (snat l j) = false) : l.all p = false := by
 rw [← Bool.not_eq_true, List.all_eq_true]
 intro h2
 rw [h2 _ (snat_mem hj)] at h
 cases h
def ysR (l : List Bx) (i k : Nat) : List Int := ((bxat l i).lines.drop k).map (·.y) ++ ysL (l.drop (i + 1))
theorem ysR_in {l : List Bx} {i k : Nat} (hk : k < (bxat l i).lines.length) : ysR l i k = (snat (bxat l i).lines k).y :: ysR l i (k + 1) := by
 unfold ysR snat
 rw [List.drop_eq_getElem_cons hk, List.map_cons, List.cons_append]
 congr 1
 simp [hk]
theorem ysL_drop {l : List Bx} {i : Nat} (h : i < l.length) : ysL (l.drop i) = ysR l i 0 := by
 unfold ysR bxat
 rw [List.drop_eq_getElem_cons h]
 simp only [ysL, List.flatMap_cons, List.drop_zero]
 congr 1
 simp [h]
theorem ysR_end {l : List Bx} {i k : Nat} (hk : (bxat l i).lines.length ≤ k) : ysR l i k = ysL (l.drop (i + 1)) := by
 unfold ysR
 rw [List.drop_eq_nil_of_le hk]
 rfl
theorem aptB_r {a b : Bx} (ha : bxO a = true) (hb : bxO b = true) : aptB a b = (decide (a.w = 0 ∨ a.h = 0 ∨ b.w = 0 ∨ b.h = 0) || decide (a.x + a.w ≤ b.x ∨ b.x + b.w ≤ a.x ∨ a.y + a.h ≤ b.y ∨ b.y + b.h ≤ a.y)) := by
 have ha1 := bxO_1 ha
 have hb1 := bxO_1 hb
 unfold aptB mnI mxI
 rw [Bool.eq_iff_iff]
 simp only [Bool.or_eq_true, decide_eq_true_eq]
 repeat' split
 all_goals omega
theorem len_dl (l : List Sn) : l.dropLast.length = l.length - 1 := List.length_dropLast
theorem snat_dl {l : List Sn} {j : Nat} (h : j < l.length - 1) : snat l.dropLast j = snat l j := by
 unfold snat
 rw [List.getD_eq_getElem?_getD, List.getD_eq_getElem?_getD, List.getElem?_dropLast, if_pos h]
attribute [local go_sem] List.length_map rowAt_n nrow rowAt_t trow rowAt_i irow
attribute [local go_sem] rowAt_c rowAt_sn rowAt_bx snrow bxrow
theorem rfind_w (l : List Bx) (t : Tok) (x : Int) : PCall Tryz.prog (.func 53) [.sl 7 (l.map bxrow) t, .int .i64 x] (.int .i64 (bix l x)) := by
 refine PCall.ok fun hok => ?_
 simp only [okAll, D.ok, okRows, and_true, true_and, lim_eq, inR_i64', inR_i32', inR_u8', inR_u16', inR_u64'] at hok
 obtain ⟨⟨hl, hr⟩, hx⟩ := hok; rw [List.length_map] at hl
 refine PCall.le ?_
 refine fn_ Tryz.func53 (by rfl) (by rfl) (rs := [.tmp 4]) (by rfl) (by simp [Tryz.f53]) ?_
 refine sr_ [0, 1] [] [] fun κ ξ hκ hξ => ?_
 try simp +decide only [go_sem]
 repeat with_reducible refine an_ ?_
 refine hκ _ _ ?_; clear hκ hξ ξ κ
 refine sq ?_
 refine sr_ [0, 1, 5] [] [] fun κ ξ hκ hξ => ?_
 try simp +decide only [go_sem]
 repeat with_reducible refine an_ ?_
 refine hκ _ _ ?_; clear hκ hξ ξ κ
 refine bl ?_
 refine lp (α := Nat) (fun i => mk [(0, .sl 7 (l.map bxrow) t), (1, .int .i64 x), (5, .int .i64 i)]) (fun _ => []) (fun i => i ≤ l.length ∧ ∀ j, j < i → ¬ (bxat l j).node = x) (fun i => l.length - i) 0 ⟨⟨by omega, by intro j hj; omega⟩, EnvLe.of_eq rfl, .refl _⟩ ?_
 rintro i ⟨hi, hj⟩
 refine sq ?_
 refine sr_ [0, 1, 5, 9] [] [] fun κ ξ hκ hξ => ?_
 try simp +decide only [go_sem]
 repeat with_reducible refine an_ ?_
 refine hκ _ _ ?_; clear hκ hξ ξ κ
 refine cd_ (fun c0 => ?_) (fun c0 => ?_)
 ·try simp only [go_sem] at c0
  refine sk ?_
  refine sq ?_
  refine bl ?_
  refine sr_ [0, 1, 5, 18] [] [] fun κ ξ hκ hξ => ?_
  try simp +decide only [go_sem, c0]
  repeat with_reducible refine an_ ?_
  refine hκ _ _ ?_; clear hκ hξ ξ κ
  refine cd_ (fun c1 => ?_) (fun c1 => ?_)
  ·try simp only [go_sem] at c1
   refine sr_ [4] [] [] fun κ ξ hκ hξ => ?_
   try simp +decide only [go_sem, c0, c1]
   repeat with_reducible refine an_ ?_
   refine hκ _ _ ?_; clear hκ hξ ξ κ
   refine rt ?_
   refine retE ?_
   simp +decide only [go_sem, resD, resV, c0, c1]
   congr 1
   unfold bix
   rw [fixI_some (p := fun b : Bx => decide (b.node = x)) (d := bx0) (i := i) (by omega) (by simpa [bxat] using c1) fun j h => by simpa [bxat] using hj j h]
  ·try simp only [go_sem] at c1
   refine sk ?_
   refine rr_ [0, 1, 5] [] [] fun κ ξ hκ hξ => ?_
   try simp +decide only [go_sem, c0, c1]
   repeat with_reducible refine an_ ?_
   refine hκ _ _ ?_; clear hκ hξ ξ κ
   refine ⟨i + 1, ⟨⟨by omega, ?_⟩, by omega⟩, EnvLe.of_eq (by rw [w64 (by omega)]; rfl), List.nil_sublist _⟩
   intro j h
   rcases Nat.lt_succ_iff_lt_or_eq.1 h with h | rfl
   ·exact hj j h
   ·exact c1
 ·try simp only [go_sem] at c0
  refine ex ?_
  refine sr_ [4] [] [] fun κ ξ hκ hξ => ?_
  try simp +decide only [go_sem, c0]
  repeat with_reducible refine an_ ?_
  refine hκ _ _ ?_; clear hκ hξ ξ κ
  refine rt ?_
  refine retE ?_
  simp +decide only [go_sem, resD, resV, c0]
  congr 1
  unfold bix
  rw [fixI_none (p := fun b : Bx => decide (b.node = x)) (d := bx0) fun j h => by simpa [bxat] using hj j (by omega)]
theorem rfits_w (b : Bx) (hb : bxO b = true) : PCall Tryz.prog (.func 54) [.ag [.int .i64 b.node, .int .i64 b.x, .int .i64 b.y, .int .i64 b.w, .int .i64 b.h, .bool b.cut, .sl 5 (b.lines.map snrow) .no]] (.bool (fitB b)) := by
 refine PCall.ok fun hok => ?_
 simp only [okAll, D.ok, okRows, and_true, true_and, lim_eq, inR_i64', inR_i32', inR_u8', inR_u16', inR_u64'] at hok
 simp only [okAll, D.ok, okRows, and_true, true_and, lim_eq, inR_i64', List.length_map] at hok
 obtain ⟨h1, h2, h3, h4, h5, hl, hr⟩ := hok
 refine PCall.le ?_
 refine fn_ Tryz.func54 (by rfl) (by rfl) (rs := [.tmp 2]) (by rfl) (by simp [Tryz.f54]) ?_
 refine sr_ [1] [1] [] fun κ ξ hκ hξ => ?_
 try simp +decide only [go_sem]
 repeat with_reducible refine an_ ?_
 refine hκ _ _ ?_; clear hκ hξ ξ κ
 refine sq ?_
 refine sr_ [1, 3] [] [] fun κ ξ hκ hξ => ?_
 try simp +decide only [go_sem]
 repeat with_reducible refine an_ ?_
 refine hκ _ _ ?_; clear hκ hξ ξ κ
 refine bl ?_
 refine lp (α := Nat) (fun i => mk [(1, .el [.int .i64 b.node, .int .i64 b.x, .int .i64 b.y, .int .i64 b.w, .int .i64 b.h, .bool b.cut, .sl 5 (b.lines.map snrow) .no]), (3, .int .i64 i)]) (fun _ => []) (fun i => i ≤ b.lines.length ∧ ∀ j, j < i → decide (b.x ≤ (snat b.lines j).x ∧ b.y ≤ (snat b.lines j).y ∧ (snat b.lines j).x + (snat b.lines j).w ≤ b.x + b.w ∧ (snat b.lines j).y + (snat b.lines j).h ≤ b.y + b.h) = true) (fun i => b.lines.length - i) 0 ⟨⟨by omega, by intro j hj; omega⟩, EnvLe.of_eq rfl, .refl _⟩ ?_
 rintro i ⟨hi, hj⟩
 refine sq ?_
 refine sr_ [1, 3, 9] [] [] fun κ ξ hκ hξ => ?_
 try simp +decide only [go_sem]
 repeat with_reducible refine an_ ?_
 refine hκ _ _ ?_; clear hκ hξ ξ κ
 refine cd_ (fun c0 => ?_) (fun c0 => ?_)
 ·simp only [go_sem] at c0
  have hq := bxO_1 hb
  have hs := (bxO_2 hb (i := i) (by omega)).1
  have e1 : IntKind.wrap .i64 ((snat b.lines i).x + (snat b.lines i).w) = (snat b.lines i).x + (snat b.lines i).w := w64 (by omega)
  have e2 : IntKind.wrap .i64 ((snat b.lines i).y + (snat b.lines i).h) = (snat b.lines i).y + (snat b.lines i).h := w64 (by omega)
  have e3 : IntKind.wrap .i64 (b.x + b.w) = b.x + b.w := w64 (by omega)
  have e4 : IntKind.wrap .i64 (b.y + b.h) = b.y + b.h := w64 (by omega)
  refine sk ?_
  refine sq ?_
  refine bl ?_
  refine srz_ [(4, [])] [1, 3, 4] [] [] fun κ ξ hκ hξ => ?_
  try simp +decide only [go_sem, c0, e1, e2, e3, e4]
  repeat with_reducible refine an_ ?_
  intro b4 hb4
  try simp +decide only [go_sem, c0, e1, e2, e3, e4, hb4]
  repeat with_reducible refine an_ ?_
  refine hκ _ _ ?_; clear hκ hξ ξ κ
  refine sr_ [1, 3, 54] [] [(5, 22), (18, 35), (25, 42)] fun κ ξ hκ hξ => ?_
  try simp +decide only [go_sem, c0, e1, e2, e3, e4, hb4]
  repeat with_reducible refine an_ ?_
  refine hκ _ _ ?_; clear hκ hξ ξ κ
  refine cd_ (fun c1 => ?_) (fun c1 => ?_)
  ·try simp only [go_sem] at c1
   refine sr_ [2] [] [] fun κ ξ hκ hξ => ?_
   try simp +decide only [go_sem, c0, e1, e2, e3, e4, hb4, c1]
   repeat with_reducible refine an_ ?_
   refine hκ _ _ ?_; clear hκ hξ ξ κ
   refine rt ?_
   refine retE ?_
   simp +decide only [go_sem, resD, resV, c0, e1, e2, e3, e4, hb4, c1]
   congr 1
   unfold fitB
   rw [all_no_sn (j := i) (by omega) (by rw [decide_eq_false_iff_not]; omega), Bool.and_false]
  ·try simp only [go_sem] at c1
   refine sk ?_
   refine rr_ [1, 3] [] [] fun κ ξ hκ hξ => ?_
   try simp +decide only [go_sem, c0, e1, e2, e3, e4, hb4, c1]
   repeat with_reducible refine an_ ?_
   refine hκ _ _ ?_; clear hκ hξ ξ κ
   refine ⟨i + 1, ⟨⟨by omega, ?_⟩, by omega⟩, EnvLe.of_eq (by rw [w64 (by omega)]; rfl), List.nil_sublist _⟩
   intro j h
   rcases Nat.lt_succ_iff_lt_or_eq.1 h with h | rfl
   ·exact hj j h
   ·rw [decide_eq_true_eq]; omega
 ·simp only [go_sem] at c0
  refine ex ?_
  refine sr_ [2] [] [] fun κ ξ hκ hξ => ?_
  try simp +decide only [go_sem, c0]
  repeat with_reducible refine an_ ?_
  refine hκ _ _ ?_; clear hκ hξ ξ κ
  refine rt ?_
  refine retE ?_
  simp +decide only [go_sem, resD, resV, c0]
  congr 1
  unfold fitB
  rw [all_at_sn fun j h => hj j (by omega), Bool.and_true]
theorem rapt_w (a b : Bx) (ha : bxO a = true) (hb : bxO b = true) : PCall Tryz.prog (.func 56) [.ag [.int .i64 a.node, .int .i64 a.x, .int .i64 a.y, .int .i64 a.w, .int .i64 a.h, .bool a.cut, .sl 5 (a.lines.map snrow) .no], .ag [.int .i64 b.node, .int .i64 b.x, .int .i64 b.y, .int .i64 b.w, .int .i64 b.h, .bool b.cut, .sl 5 (b.lines.map snrow) .no]] (.bool (aptB a b)) := by
 have ha1 := bxO_1 ha
 have hb1 := bxO_1 hb
 have e1 : IntKind.wrap .i64 (a.x + a.w) = a.x + a.w := w64 (by omega)
 have e2 : IntKind.wrap .i64 (b.x + b.w) = b.x + b.w := w64 (by omega)
 have e3 : IntKind.wrap .i64 (a.y + a.h) = a.y + a.h := w64 (by omega)
 have e4 : IntKind.wrap .i64 (b.y + b.h) = b.y + b.h := w64 (by omega)
 refine PCall.le ?_
 refine fn_ Tryz.func56 (by rfl) (by rfl) (rs := [.tmp 4]) (by rfl) (by simp [Tryz.f56]) ?_
 refine sr_ [2, 3] [2, 3] [] fun κ ξ hκ hξ => ?_
 try simp +decide only [go_sem, e1, e2, e3, e4]
 repeat with_reducible refine an_ ?_
 refine hκ _ _ ?_; clear hκ hξ ξ κ
 refine sq ?_
 refine sr_ [2, 3, 22] [] [(3, 8), (8, 13), (13, 18)] fun κ ξ hκ hξ => ?_
 try simp +decide only [go_sem, e1, e2, e3, e4]
 repeat with_reducible refine an_ ?_
 refine hκ _ _ ?_; clear hκ hξ ξ κ
 refine cd_ (fun c0 => ?_) (fun c0 => ?_)
 ·try simp only [go_sem] at c0
  refine sr_ [4] [] [] fun κ ξ hκ hξ => ?_
  try simp +decide only [go_sem, e1, e2, e3, e4, c0]
  repeat with_reducible refine an_ ?_
  refine hκ _ _ ?_; clear hκ hξ ξ κ
  refine rt ?_
  refine retE ?_
  simp +decide only [go_sem, resD, resV, e1, e2, e3, e4, c0]
  congr 1
  rw [aptB_r ha hb, decide_eq_true (by omega), Bool.true_or]
 ·try simp only [go_sem] at c0
  refine sk ?_
  refine sr_ [4] [] [(8, 31), (18, 41), (28, 51)] fun κ ξ hκ hξ => ?_
  try simp +decide only [go_sem, e1, e2, e3, e4, c0]
  repeat with_reducible refine an_ ?_
  refine hκ _ _ ?_; clear hκ hξ ξ κ
  refine rt ?_
  refine retE ?_
  simp +decide only [go_sem, resD, resV, e1, e2, e3, e4, c0]
  congr 1
  rw [aptB_r ha hb, show decide (a.w = 0 ∨ a.h = 0 ∨ b.w = 0 ∨ b.h = 0) = false from decide_eq_false (by omega), Bool.false_or]
  rw [Bool.eq_iff_iff]
  simp
  omega
theorem rord_w (l : List Bx) (t : Tok) (hx : bxsB l = true) : PCall Tryz.prog (.func 52) [.sl 7 (l.map bxrow) t] (.bool (srtd (ysL l))) := by
 refine PCall.ok fun hok => ?_
 simp only [okAll, D.ok, okRows, and_true, true_and, lim_eq, inR_i64', inR_i32', inR_u8', inR_u16', inR_u64'] at hok
 obtain ⟨hl, hr⟩ := hok; rw [List.length_map] at hl
 rw [← ordR_ys hx]
 refine PCall.le ?_
 refine fn_ Tryz.func52 (by rfl) (by rfl) (rs := [.tmp 2]) (by rfl) (by simp [Tryz.f52]) ?_
 refine sr_ [0] [] [] fun κ ξ hκ hξ => ?_
 try simp +decide only [go_sem]
 repeat with_reducible refine an_ ?_
 refine hκ _ _ ?_; clear hκ hξ ξ κ
 refine sr_ [0, 3] [] [] fun κ ξ hκ hξ => ?_
 try simp +decide only [go_sem]
 repeat with_reducible refine an_ ?_
 refine hκ _ _ ?_; clear hκ hξ ξ κ
 refine sq ?_
 refine sr_ [0, 3, 4] [] [] fun κ ξ hκ hξ => ?_
 try simp +decide only [go_sem]
 repeat with_reducible refine an_ ?_
 refine hκ _ _ ?_; clear hκ hξ ξ κ
 refine bl ?_
 refine lp (α := Nat × Int) (fun z => mk [(0, .sl 7 (l.map bxrow) t), (3, .int .i64 z.2), (4, .int .i64 z.1)]) (fun _ => []) (fun z => z.1 ≤ l.length ∧ ordR (-1000000000) (ysL l) = ordR z.2 (ysL (l.drop z.1))) (fun z => l.length - z.1) (0, -1000000000) ⟨⟨by omega, rfl⟩, EnvLe.of_eq rfl, .refl _⟩ ?_
 rintro ⟨i, m⟩ ⟨hi, hm⟩
 simp only at hi hm
 refine sq ?_
 refine sr_ [0, 3, 4, 9] [] [] fun κ ξ hκ hξ => ?_
 try simp +decide only [go_sem]
 repeat with_reducible refine an_ ?_
 refine hκ _ _ ?_; clear hκ hξ ξ κ
 refine cd_ (fun c0 => ?_) (fun c0 => ?_)
 ·simp only [go_sem] at c0
  have hil : i < l.length := by omega
  have hll := bx_lens hr hil
  refine sk ?_
  refine sq ?_
  refine bl ?_
  refine sr_ [0, 3, 4, 5] [] [] fun κ ξ hκ hξ => ?_
  try simp +decide only [go_sem, c0]
  repeat with_reducible refine an_ ?_
  refine hκ _ _ ?_; clear hκ hξ ξ κ
  refine bl ?_
  rw [ysL_drop hil] at hm
  refine lp (α := Nat × Int) (fun z => mk [(0, .sl 7 (l.map bxrow) t), (3, .int .i64 z.2), (4, .int .i64 i), (5, .int .i64 z.1)]) (fun _ => []) (fun z => z.1 ≤ (bxat l i).lines.length ∧ ordR (-1000000000) (ysL l) = ordR z.2 (ysR l i z.1)) (fun z => (bxat l i).lines.length - z.1) (0, m) ⟨⟨by omega, hm⟩, EnvLe.of_eq rfl, .refl _⟩ ?_
  rintro ⟨k, m2⟩ ⟨hk, hm2⟩
  simp only at hk hm2
  refine sq ?_
  refine sr_ [0, 3, 4, 5, 19] [] [] fun κ ξ hκ hξ => ?_
  try simp +decide only [go_sem, c0]
  repeat with_reducible refine an_ ?_
  refine hκ _ _ ?_; clear hκ hξ ξ κ
  refine cd_ (fun c1 => ?_) (fun c1 => ?_)
  ·simp only [go_sem] at c1
   have hkl : k < (bxat l i).lines.length := by omega
   have hri := ysR_in hkl
   refine sk ?_
   refine sq ?_
   refine bl ?_
   refine sq ?_
   refine sr_ [0, 4, 5, 32] [] [] fun κ ξ hκ hξ => ?_
   try simp +decide only [go_sem, c0, c1]
   repeat with_reducible refine an_ ?_
   refine hκ _ _ ?_; clear hκ hξ ξ κ
   refine cd_ (fun c2 => ?_) (fun c2 => ?_)
   ·try simp only [go_sem] at c2
    refine sr_ [2] [] [] fun κ ξ hκ hξ => ?_
    try simp +decide only [go_sem, c0, c1, c2]
    repeat with_reducible refine an_ ?_
    refine hκ _ _ ?_; clear hκ hξ ξ κ
    refine rt ?_
    refine retE ?_
    simp +decide only [go_sem, resD, resV, c0, c1, c2]
    congr 1
    rw [hm2, hri, ordR, decide_eq_true c2]
    rfl
   ·try simp only [go_sem] at c2
    refine sk ?_
    refine rr_ [0, 3, 4, 5] [] [] fun κ ξ hκ hξ => ?_
    try simp +decide only [go_sem, c0, c1, c2]
    repeat with_reducible refine an_ ?_
    refine hκ _ _ ?_; clear hκ hξ ξ κ
    refine rr_ [0, 3, 4, 5] [] [] fun κ ξ hκ hξ => ?_
    try simp +decide only [go_sem, c0, c1, c2]
    repeat with_reducible refine an_ ?_
    refine hκ _ _ ?_; clear hκ hξ ξ κ
    refine ⟨(k + 1, (snat (bxat l i).lines k).y), ⟨⟨by simp only; omega, by rw [hm2, hri, ordR, decide_eq_false c2]; rfl⟩, by simp only; omega⟩, EnvLe.of_eq (by rw [w64 (by omega)]; rfl), .refl _⟩
  ·simp only [go_sem] at c1
   refine ex ?_
   refine rr_ [0, 3, 4] [] [] fun κ ξ hκ hξ => ?_
   try simp +decide only [go_sem, c0, c1]
   repeat with_reducible refine an_ ?_
   refine hκ _ _ ?_; clear hκ hξ ξ κ
   refine ⟨(i + 1, m2), ⟨⟨by simp only; omega, by rw [hm2, ysR_end (by omega)]⟩, by simp only; omega⟩, EnvLe.of_eq (by rw [w64 (by omega)]; rfl), .refl _⟩
 ·simp only [go_sem] at c0
  refine ex ?_
  refine sr_ [2] [] [] fun κ ξ hκ hξ => ?_
  try simp +decide only [go_sem, c0]
  repeat with_reducible refine an_ ?_
  refine hκ _ _ ?_; clear hκ hξ ξ κ
  refine rt ?_
  refine retE ?_
  simp +decide only [go_sem, resD, resV, c0]
  congr 1
  obtain rfl : i = l.length := by omega
  rw [hm, List.drop_length]
  rfl
theorem rfull_w (b : Bx) (n : Int) : PCall Tryz.prog (.func 55) [.ag [.int .i64 b.node, .int .i64 b.x, .int .i64 b.y, .int .i64 b.w, .int .i64 b.h, .bool b.cut, .sl 5 (b.lines.map snrow) .no], .int .i64 n] (.bool (fulB b n)) := by
 refine PCall.ok fun hok => ?_
 simp only [okAll, D.ok, okRows, and_true, true_and, lim_eq, inR_i64', inR_i32', inR_u8', inR_u16', inR_u64'] at hok
 simp only [okAll, D.ok, okRows, and_true, true_and, lim_eq, inR_i64', List.length_map] at hok
 obtain ⟨⟨h1, h2, h3, h4, h5, hl, hr⟩, hn⟩ := hok
 have hlw : IntKind.wrap .i64 ((b.lines.length : Int) - 1) = (b.lines.length : Int) - 1 := w64 (by omega)
 refine PCall.le ?_
 refine fn_ Tryz.func55 (by rfl) (by rfl) (rs := [.tmp 4]) (by rfl) (by simp [Tryz.f55]) ?_
 refine sr_ [1, 2] [2] [] fun κ ξ hκ hξ => ?_
 try simp +decide only [go_sem, hlw]
 repeat with_reducible refine an_ ?_
 refine hκ _ _ ?_; clear hκ hξ ξ κ
 refine sq ?_
 refine sr_ [1, 2, 5] [] [] fun κ ξ hκ hξ => ?_
 try simp +decide only [go_sem, hlw]
 repeat with_reducible refine an_ ?_
 refine hκ _ _ ?_; clear hκ hξ ξ κ
 refine bl ?_
 refine lp (α := Nat) (fun i => mk [(1, .int .i64 n), (2, .el [.int .i64 b.node, .int .i64 b.x, .int .i64 b.y, .int .i64 b.w, .int .i64 b.h, .bool b.cut, .sl 5 (b.lines.map snrow) .no]), (5, .int .i64 i)]) (fun _ => []) (fun i => i ≤ b.lines.length ∧ ∀ j, j < i → n ≤ wdN (snat b.lines j).txt) (fun i => b.lines.length - i) 0 ⟨⟨by omega, (fun j hj => by omega)⟩, EnvLe.of_eq rfl, .refl _⟩ ?_
 rintro i ⟨hi, hj⟩
 refine sq ?_
 refine sr_ [1, 2, 5, 13] [] [] fun κ ξ hκ hξ => ?_
 try simp +decide only [go_sem, hlw]
 repeat with_reducible refine an_ ?_
 refine hκ _ _ ?_; clear hκ hξ ξ κ
 refine cd_ (fun c0 => ?_) (fun c0 => ?_)
 ·simp only [go_sem] at c0
  have hil : (i : Int) < (b.lines.length : Int) := by omega
  refine sk ?_
  refine sq ?_
  refine bl ?_
  refine sr_ [1, 2, 5, 6] [] [] fun κ ξ hκ hξ => ?_
  try simp +decide only [go_sem, hlw, c0, hil]
  repeat with_reducible refine an_ ?_
  refine callF (rwd_w _) ?_
  try simp +decide only [go_sem, hlw, c0, hil]
  repeat with_reducible refine an_ ?_
  refine hκ _ _ ?_; clear hκ hξ ξ κ
  refine sr_ [1, 2, 5, 28] [] [] fun κ ξ hκ hξ => ?_
  try simp +decide only [go_sem, hlw, c0, hil]
  repeat with_reducible refine an_ ?_
  refine hκ _ _ ?_; clear hκ hξ ξ κ
  refine cd_ (fun c1 => ?_) (fun c1 => ?_)
  ·try simp only [go_sem] at c1
   refine sr_ [4] [] [] fun κ ξ hκ hξ => ?_
   try simp +decide only [go_sem, hlw, c0, hil, c1]
   repeat with_reducible refine an_ ?_
   refine hκ _ _ ?_; clear hκ hξ ξ κ
   refine rt ?_
   refine retE ?_
   simp +decide only [go_sem, resD, resV, hlw, c0, hil, c1]
   congr 1
   unfold fulB
   rw [all_no_sn (j := i) (by rw [len_dl]; omega) (by rw [snat_dl (by omega)]; simpa using c1)]
  ·try simp only [go_sem] at c1
   refine sk ?_
   refine rr_ [1, 2, 5] [] [] fun κ ξ hκ hξ => ?_
   try simp +decide only [go_sem, hlw, c0, hil, c1]
   repeat with_reducible refine an_ ?_
   refine hκ _ _ ?_; clear hκ hξ ξ κ
   refine ⟨i + 1, ⟨⟨by omega, ?_⟩, by omega⟩, EnvLe.of_eq (by rw [w64 (by omega)]; rfl), List.nil_sublist _⟩
   intro j h
   rcases Nat.lt_succ_iff_lt_or_eq.1 h with h | rfl
   ·exact hj j h
   ·omega
 ·simp only [go_sem] at c0
  refine ex ?_
  refine sr_ [4] [] [] fun κ ξ hκ hξ => ?_
  try simp +decide only [go_sem, hlw, c0]
  repeat with_reducible refine an_ ?_
  refine hκ _ _ ?_; clear hκ hξ ξ κ
  refine rt ?_
  refine retE ?_
  simp +decide only [go_sem, resD, resV, hlw, c0]
  congr 1
  unfold fulB
  rw [all_at_sn fun j h => by rw [len_dl] at h; rw [snat_dl h, decide_eq_true_eq]; exact hj j (by omega)]
end Go.Proofs.YtfjnohmdilmfhaaGreatDoor
/- Claim: whether a claim holds. Printed by a tool of our own. -/
namespace Go.Proofs.YtfjnohmdilmfhaaGreatDoor
open Go Go.RowKit
set_option linter.unusedSimpArgs false
set_option linter.unusedVariables false
set_option maxHeartbeats 4000000
set_option maxRecDepth 100000
theorem clN_1 {e : Cl} (h : clN e = true) : opC e.op e.a e.b e.n e.kids.length = true ∧ ∀ i, i < e.kids.length → clN (cat e.kids i) = true := by
 rw [clN_eq, Bool.and_eq_true] at h
 refine ⟨h.1, fun i hi => ?_⟩
 cases hk : clN (cat e.kids i) with
 | true => rfl
 | false => rw [clN_at hi hk] at h; cases h.2
theorem opC_8 {a b n : Int} {k : Nat} (h : opC 8 a b n k = true) : k = 1 := by
 unfold opC at h
 simp at h
 omega
theorem opC_in {o a b n : Int} {k : Nat} (h : opC o a b n k = true) : 1 ≤ o ∧ o ≤ 8 := by
 unfold opC at h
 by_cases h1 : 1 ≤ o ∧ o ≤ 8
 ·exact h1
 ·repeat rw [if_neg (by omega)] at h
  cases h
theorem any_q (p : Cl → Bool) (l : List Cl) : (l.any fun x => !p x) = !l.all p := by
 induction l with
 | nil => rfl
 | cons x l ih => simp [ih]
theorem map_hd {l : List Cl} (h : l.length = 1) (p : Cl → Bool) : (l.map p).headD false = p (cat l 0) := by
 match l, h with
 | [x], _ => rfl
theorem tk_cnt (p : Cl → Bool) {l : List Cl} {i : Nat} (h : i < l.length) : ((l.take (i + 1)).filter p).length = if p (cat l i) = true then ((l.take i).filter p).length + 1 else ((l.take i).filter p).length := by
 rw [take_c h, List.filter_append, List.length_append]
 by_cases hp : p (cat l i) = true
 ·rw [if_pos hp]; simp [hp]
 ·rw [if_neg hp]; simp [hp]
theorem cnt_tk (p : Cl → Bool) (l : List Cl) (i : Nat) : ((l.take i).filter p).length ≤ i := Nat.le_trans (List.length_filter_le _ _) (List.length_take_le ..)
theorem cnt_all (p : Cl → Bool) (l : List Cl) : decide ((l.filter p).length = l.length) = l.all p := by
 rw [Bool.eq_iff_iff, decide_eq_true_eq, List.all_eq_true, List.length_filter_eq_length_iff]
theorem cnt_any (p : Cl → Bool) (l : List Cl) : decide (0 < (l.filter p).length) = l.any p := by
 rw [Bool.eq_iff_iff, decide_eq_true_eq, List.any_eq_true, List.length_pos_iff_exists_mem]
 simp [List.mem_filter]
theorem cnt_not (p : Cl → Bool) {l : List Cl} (h : l.length = 1) : decide ((l.filter p).length = 0) = !p (cat l 0) := by
 match l, h with
 | [x], _ =>
  show _ = !p x
  cases hp : p x <;> simp [hp]
theorem rw_c0 {l : List Cl} (h : ((0 : Nat) : Int) < (l.length : Int)) : rowAt (l.map crow) 0 = [.int .i64 (cat l 0).op, .int .i64 (cat l 0).a, .int .i64 (cat l 0).b, .int .i64 (cat l 0).n, .sl 5 ((cat l 0).kids.map crow) .no] := rowAt_c h
attribute [local go_sem] List.length_map rowAt_n nrow rowAt_t trow rowAt_i irow
attribute [local go_sem] rowAt_c rowAt_sn rowAt_bx snrow bxrow
theorem hy_w (l : List Bx) (k : Cl) (h : PCall Tryz.prog (.func 25) [.sl 7 (l.map bxrow) .no, .ag [.int .i64 k.op, .int .i64 k.a, .int .i64 k.b, .int .i64 k.n, .sl 5 (k.kids.map crow) .no]] (.bool (hld l k))) : PCall Tryz.prog (.func 42) [.ag [.int .i64 k.op, .int .i64 k.a, .int .i64 k.b, .int .i64 k.n, .sl 5 (k.kids.map crow) .no], .el [.sl 7 (l.map bxrow) .no]] (.bool (hld l k)) := by
 refine PCall.le ?_
 refine fn_ Tryz.func42 (by rfl) (by rfl) (rs := [.tmp 3]) (by rfl) (by simp [Tryz.f42]) ?_
 refine sr_ [1, 2] [2] [] fun κ ξ hκ hξ => ?_
 try simp +decide only [go_sem]
 repeat with_reducible refine an_ ?_
 refine hκ _ _ ?_; clear hκ hξ ξ κ
 refine sr_ [3] [] [] fun κ ξ hκ hξ => ?_
 try simp +decide only [go_sem]
 repeat with_reducible refine an_ ?_
 refine callF (h) ?_
 try simp +decide only [go_sem]
 repeat with_reducible refine an_ ?_
 refine hκ _ _ ?_; clear hκ hξ ξ κ
 refine rt ?_
 refine retE ?_
 simp +decide only [go_sem, resD, resV]
 
theorem hn_w (l : List Bx) (k : Cl) (h : PCall Tryz.prog (.func 25) [.sl 7 (l.map bxrow) .no, .ag [.int .i64 k.op, .int .i64 k.a, .int .i64 k.b, .int .i64 k.n, .sl 5 (k.kids.map crow) .no]] (.bool (hld l k))) : PCall Tryz.prog (.func 43) [.ag [.int .i64 k.op, .int .i64 k.a, .int .i64 k.b, .int .i64 k.n, .sl 5 (k.kids.map crow) .no], .el [.sl 7 (l.map bxrow) .no]] (.bool (!hld l k)) := by
 refine PCall.le ?_
 refine fn_ Tryz.func43 (by rfl) (by rfl) (rs := [.tmp 3]) (by rfl) (by simp [Tryz.f43]) ?_
 refine sr_ [1, 2] [2] [] fun κ ξ hκ hξ => ?_
 try simp +decide only [go_sem]
 repeat with_reducible refine an_ ?_
 refine hκ _ _ ?_; clear hκ hξ ξ κ
 refine sr_ [3] [] [] fun κ ξ hκ hξ => ?_
 try simp +decide only [go_sem]
 repeat with_reducible refine an_ ?_
 refine callF (h) ?_
 try simp +decide only [go_sem]
 repeat with_reducible refine an_ ?_
 refine hκ _ _ ?_; clear hκ hξ ξ κ
 refine rt ?_
 refine retE ?_
 simp +decide only [go_sem, resD, resV]
 
theorem hld_s (l : List Bx) (hf : fewB l = true) (hx : bxsB l = true) (e : Cl) (hc : clN e = true) (ih : ∀ k : Cl, clS k < clS e → clN k = true → PCall Tryz.prog (.func 25) [.sl 7 (l.map bxrow) .no, .ag [.int .i64 k.op, .int .i64 k.a, .int .i64 k.b, .int .i64 k.n, .sl 5 (k.kids.map crow) .no]] (.bool (hld l k))) : PCall Tryz.prog (.func 25) [.sl 7 (l.map bxrow) .no, .ag [.int .i64 e.op, .int .i64 e.a, .int .i64 e.b, .int .i64 e.n, .sl 5 (e.kids.map crow) .no]] (.bool (hld l e)) := by
 refine PCall.ok fun hok => ?_
 simp only [okAll, D.ok, okRows, and_true, true_and, lim_eq, inR_i64', inR_i32', inR_u8', inR_u16', inR_u64'] at hok
 obtain ⟨_, ⟨h1, h2, h3, h4, hkl, hkr⟩⟩ := hok; rw [List.length_map] at hkl
 have hck := clN_1 hc
 have hO1 := fnB_O hx e.a
 have hO2 := fnB_O hx e.b
 have hq := bxO_1 hO1
 have hyw : IntKind.wrap .i64 ((fnB l e.a).y + (fnB l e.a).h) = (fnB l e.a).y + (fnB l e.a).h := w64 (by omega)
 refine PCall.le ?_
 refine fn_ Tryz.func25 (by rfl) (by rfl) (rs := [.tmp 4]) (by rfl) (by simp [Tryz.f25]) ?_
 refine sr_ [2, 3] [2, 3] [] fun κ ξ hκ hξ => ?_
 try simp +decide only [go_sem, hyw]
 repeat with_reducible refine an_ ?_
 refine hκ _ _ ?_; clear hκ hξ ξ κ
 refine sr_ [2, 3, 5] [] [] fun κ ξ hκ hξ => ?_
 try simp +decide only [go_sem, hyw]
 repeat with_reducible refine an_ ?_
 refine hκ _ _ ?_; clear hκ hξ ξ κ
 refine sr_ [2, 3, 5, 6] [] [] fun κ ξ hκ hξ => ?_
 try simp +decide only [go_sem, hyw]
 repeat with_reducible refine an_ ?_
 refine hκ _ _ ?_; clear hκ hξ ξ κ
 refine srz_ [(7, [])] [2, 3, 5, 6, 7, 8] [] [] fun κ ξ hκ hξ => ?_
 try simp +decide only [go_sem, hyw]
 repeat with_reducible refine an_ ?_
 refine callF (find_w _ _ _) ?_
 try simp +decide only [go_sem, hyw]
 repeat with_reducible refine an_ ?_
 intro b7 hb7
 try simp +decide only [go_sem, hyw, hb7]
 repeat with_reducible refine an_ ?_
 refine hκ _ _ ?_; clear hκ hξ ξ κ
 refine sq ?_
 refine sr_ [2, 3, 5, 6, 7, 8, 21] [] [] fun κ ξ hκ hξ => ?_
 try simp +decide only [go_sem, hyw, hb7]
 repeat with_reducible refine an_ ?_
 refine hκ _ _ ?_; clear hκ hξ ξ κ
 refine bl ?_
 refine sr_ [2, 3, 5, 6, 7, 8, 21, 22] [] [] fun κ ξ hκ hξ => ?_
 try simp +decide only [go_sem, hyw, hb7]
 repeat with_reducible refine an_ ?_
 refine hκ _ _ ?_; clear hκ hξ ξ κ
 refine cd_ (fun c0 => ?_) (fun c0 => ?_)
 ·have k0 := c0
  simp only [go_sem] at c0
  refine sr_ [4] [] [(1, 25)] fun κ ξ hκ hξ => ?_
  try simp +decide only [go_sem, hyw, hb7, c0]
  repeat with_reducible refine an_ ?_
  refine vo_gc ?_
  try simp +decide only [go_sem, hyw, hb7, c0]
  refine gcF (fits_w _ (by assumption)) ?_
  try simp +decide only [go_sem, hyw, hb7, c0]
  repeat with_reducible refine an_ ?_
  refine hκ _ _ ?_; clear hκ hξ ξ κ
  refine rt ?_
  refine retE ?_
  simp +decide only [go_sem, resD, resV, hyw, hb7, c0]
  all_goals congr 1
  all_goals rw [hld_eq l e]
  all_goals (repeat (first | rw [if_pos (by assumption)] | rw [if_neg (by assumption)]))
  all_goals first
  | rfl
  | (cases fnH l e.a <;> rfl)
  | (cases fnH l e.a <;> cases fnH l e.b <;> rfl)
  | (rw [map_hd hk1]; done)
  | (rw [any_q, Bool.not_not])
 ·have k0 := c0
  simp only [go_sem] at c0
  refine sr_ [2, 3, 5, 6, 7, 8, 21, 29] [] [] fun κ ξ hκ hξ => ?_
  try simp +decide only [go_sem, hyw, hb7, c0]
  repeat with_reducible refine an_ ?_
  refine hκ _ _ ?_; clear hκ hξ ξ κ
  refine cd_ (fun c1 => ?_) (fun c1 => ?_)
  ·have k1 := c1
   simp only [go_sem] at c1
   refine srz_ [(9, [])] [7, 8, 9, 10] [] [] fun κ ξ hκ hξ => ?_
   try simp +decide only [go_sem, hyw, hb7, c0, c1]
   repeat with_reducible refine an_ ?_
   refine callF (find_w _ _ _) ?_
   try simp +decide only [go_sem, hyw, hb7, c0, c1]
   repeat with_reducible refine an_ ?_
   intro b9 hb9
   try simp +decide only [go_sem, hyw, hb7, c0, c1, hb9]
   repeat with_reducible refine an_ ?_
   refine hκ _ _ ?_; clear hκ hξ ξ κ
   refine sr_ [4] [] [(1, 39), (4, 42)] fun κ ξ hκ hξ => ?_
   try simp +decide only [go_sem, hyw, hb7, c0, c1, hb9]
   repeat with_reducible refine an_ ?_
   refine vo_gc ?_
   try simp +decide only [go_sem, hyw, hb7, c0, c1, hb9]
   refine gcF (apt_w _ _ (by assumption) (by assumption)) ?_
   try simp +decide only [go_sem, hyw, hb7, c0, c1, hb9]
   repeat with_reducible refine an_ ?_
   refine hκ _ _ ?_; clear hκ hξ ξ κ
   refine rt ?_
   refine retE ?_
   simp +decide only [go_sem, resD, resV, hyw, hb7, c0, c1, hb9]
   all_goals congr 1
   all_goals rw [hld_eq l e]
   all_goals (repeat (first | rw [if_pos (by assumption)] | rw [if_neg (by assumption)]))
   all_goals first
   | rfl
   | (cases fnH l e.a <;> rfl)
   | (cases fnH l e.a <;> cases fnH l e.b <;> rfl)
   | (rw [map_hd hk1]; done)
   | (rw [any_q, Bool.not_not])
  ·have k1 := c1
   simp only [go_sem] at c1
   refine sr_ [2, 3, 5, 6, 7, 8, 21, 47] [] [] fun κ ξ hκ hξ => ?_
   try simp +decide only [go_sem, hyw, hb7, c0, c1]
   repeat with_reducible refine an_ ?_
   refine hκ _ _ ?_; clear hκ hξ ξ κ
   refine cd_ (fun c2 => ?_) (fun c2 => ?_)
   ·have k2 := c2
    simp only [go_sem] at c2
    refine sr_ [4] [] [(1, 50)] fun κ ξ hκ hξ => ?_
    try simp +decide only [go_sem, hyw, hb7, c0, c1, c2]
    repeat with_reducible refine an_ ?_
    refine hκ _ _ ?_; clear hκ hξ ξ κ
    refine rt ?_
    refine retE ?_
    simp +decide only [go_sem, resD, resV, hyw, hb7, c0, c1, c2]
    all_goals congr 1
    all_goals rw [hld_eq l e]
    all_goals (repeat (first | rw [if_pos (by assumption)] | rw [if_neg (by assumption)]))
    all_goals first
    | rfl
    | (cases fnH l e.a <;> rfl)
    | (cases fnH l e.a <;> cases fnH l e.b <;> rfl)
    | (rw [map_hd hk1]; done)
    | (rw [any_q, Bool.not_not])
   ·have k2 := c2
    simp only [go_sem] at c2
    refine sr_ [2, 3, 5, 6, 7, 8, 21, 60] [] [] fun κ ξ hκ hξ => ?_
    try simp +decide only [go_sem, hyw, hb7, c0, c1, c2]
    repeat with_reducible refine an_ ?_
    refine hκ _ _ ?_; clear hκ hξ ξ κ
    refine cd_ (fun c3 => ?_) (fun c3 => ?_)
    ·have k3 := c3
     simp only [go_sem] at c3
     refine sr_ [4] [] [] fun κ ξ hκ hξ => ?_
     try simp +decide only [go_sem, hyw, hb7, c0, c1, c2, c3]
     repeat with_reducible refine an_ ?_
     refine callF (ord_w _ _ (by assumption)) ?_
     try simp +decide only [go_sem, hyw, hb7, c0, c1, c2, c3]
     repeat with_reducible refine an_ ?_
     refine hκ _ _ ?_; clear hκ hξ ξ κ
     refine rt ?_
     refine retE ?_
     simp +decide only [go_sem, resD, resV, hyw, hb7, c0, c1, c2, c3]
     all_goals congr 1
     all_goals rw [hld_eq l e]
     all_goals (repeat (first | rw [if_pos (by assumption)] | rw [if_neg (by assumption)]))
     all_goals first
     | rfl
     | (cases fnH l e.a <;> rfl)
     | (cases fnH l e.a <;> cases fnH l e.b <;> rfl)
     | (rw [map_hd hk1]; done)
     | (rw [any_q, Bool.not_not])
    ·have k3 := c3
     simp only [go_sem] at c3
     refine sr_ [3, 5, 6, 7, 8, 21, 64] [] [] fun κ ξ hκ hξ => ?_
     try simp +decide only [go_sem, hyw, hb7, c0, c1, c2, c3]
     repeat with_reducible refine an_ ?_
     refine hκ _ _ ?_; clear hκ hξ ξ κ
     refine cd_ (fun c4 => ?_) (fun c4 => ?_)
     ·have k4 := c4
      simp only [go_sem] at c4
      refine sr_ [4] [] [(1, 67)] fun κ ξ hκ hξ => ?_
      try simp +decide only [go_sem, hyw, hb7, c0, c1, c2, c3, c4]
      repeat with_reducible refine an_ ?_
      refine vo_gc ?_
      try simp +decide only [go_sem, hyw, hb7, c0, c1, c2, c3, c4]
      refine gcF (full_w _ _) ?_
      try simp +decide only [go_sem, hyw, hb7, c0, c1, c2, c3, c4]
      repeat with_reducible refine an_ ?_
      refine hκ _ _ ?_; clear hκ hξ ξ κ
      refine rt ?_
      refine retE ?_
      simp +decide only [go_sem, resD, resV, hyw, hb7, c0, c1, c2, c3, c4]
      all_goals congr 1
      all_goals rw [hld_eq l e]
      all_goals (repeat (first | rw [if_pos (by assumption)] | rw [if_neg (by assumption)]))
      all_goals first
      | rfl
      | (cases fnH l e.a <;> rfl)
      | (cases fnH l e.a <;> cases fnH l e.b <;> rfl)
      | (rw [map_hd hk1]; done)
      | (rw [any_q, Bool.not_not])
     ·have k4 := c4
      simp only [go_sem] at c4
      refine sr_ [3, 5, 6, 21, 73] [] [] fun κ ξ hκ hξ => ?_
      try simp +decide only [go_sem, hyw, hb7, c0, c1, c2, c3, c4]
      repeat with_reducible refine an_ ?_
      refine hκ _ _ ?_; clear hκ hξ ξ κ
      refine cd_ (fun c5 => ?_) (fun c5 => ?_)
      ·have k5 := c5
       simp only [go_sem] at c5
       refine sr_ [4] [] [] fun κ ξ hκ hξ => ?_
       try simp +decide only [go_sem, hyw, hb7, c0, c1, c2, c3, c4, c5]
       repeat with_reducible refine an_ ?_
       refine callF (cfcl_w 42 [.el [.sl 7 (l.map bxrow) .no]] (fun k => hld l k) e.kids .no fun i hi => by rw [crow_eq]; exact hy_w l _ (ih _ (kid_lt hi) (hck.2 i hi))) ?_
       try simp +decide only [go_sem, hyw, hb7, c0, c1, c2, c3, c4, c5]
       repeat with_reducible refine an_ ?_
       refine hκ _ _ ?_; clear hκ hξ ξ κ
       refine rt ?_
       refine retE ?_
       simp +decide only [go_sem, resD, resV, hyw, hb7, c0, c1, c2, c3, c4, c5]
       all_goals congr 1
       all_goals rw [hld_eq l e]
       all_goals (repeat (first | rw [if_pos (by assumption)] | rw [if_neg (by assumption)]))
       all_goals first
       | rfl
       | (cases fnH l e.a <;> rfl)
       | (cases fnH l e.a <;> cases fnH l e.b <;> rfl)
       | (rw [map_hd hk1]; done)
       | (rw [any_q, Bool.not_not])
      ·have k5 := c5
       simp only [go_sem] at c5
       refine sr_ [3, 6, 79] [] [] fun κ ξ hκ hξ => ?_
       try simp +decide only [go_sem, hyw, hb7, c0, c1, c2, c3, c4, c5]
       repeat with_reducible refine an_ ?_
       refine hκ _ _ ?_; clear hκ hξ ξ κ
       refine cd_ (fun c6 => ?_) (fun c6 => ?_)
       ·simp only [go_sem] at c6
        have hk1 : e.kids.length = 1 := opC_8 (c6 ▸ hck.1)
        have hk2 : (0 : Int) < (e.kids.length : Int) := by omega
        have hk3 : ((0 : Nat) : Int) < (e.kids.length : Int) := by omega
        refine sr_ [4] [] [] fun κ ξ hκ hξ => ?_
        try simp +decide only [go_sem, hyw, hb7, c0, c1, c2, c3, c4, c5, c6, hk1, Int.zero_lt_one, rw_c0 hk3]
        repeat with_reducible refine an_ ?_
        refine callFc (hn_w l (cat e.kids 0) (ih _ (kid_lt (by omega)) (hck.2 0 (by omega)))) ?_
        try simp +decide only [go_sem, hyw, hb7, c0, c1, c2, c3, c4, c5, c6, hk1, Int.zero_lt_one, rw_c0 hk3]
        repeat with_reducible refine an_ ?_
        refine hκ _ _ ?_; clear hκ hξ ξ κ
        refine rt ?_
        refine retE ?_
        simp +decide only [go_sem, resD, resV, hyw, hb7, c0, c1, c2, c3, c4, c5, c6, hk1, Int.zero_lt_one, rw_c0 hk3]
        all_goals congr 1
        all_goals rw [hld_eq l e]
        all_goals (repeat (first | rw [if_pos (by assumption)] | rw [if_neg (by assumption)]))
        all_goals first
        | rfl
        | (cases fnH l e.a <;> rfl)
        | (cases fnH l e.a <;> cases fnH l e.b <;> rfl)
        | (rw [map_hd hk1]; done)
        | (rw [any_q, Bool.not_not])
       ·simp only [go_sem] at c6
        refine sk ?_
        refine sr_ [4] [] [] fun κ ξ hκ hξ => ?_
        try simp +decide only [go_sem, hyw, hb7, c0, c1, c2, c3, c4, c5, c6]
        repeat with_reducible refine an_ ?_
        refine callF (cfcl_w 43 [.el [.sl 7 (l.map bxrow) .no]] (fun k => !hld l k) e.kids .no fun i hi => by rw [crow_eq]; exact hn_w l _ (ih _ (kid_lt hi) (hck.2 i hi))) ?_
        try simp +decide only [go_sem, hyw, hb7, c0, c1, c2, c3, c4, c5, c6]
        repeat with_reducible refine an_ ?_
        refine hκ _ _ ?_; clear hκ hξ ξ κ
        refine rt ?_
        refine retE ?_
        simp +decide only [go_sem, resD, resV, hyw, hb7, c0, c1, c2, c3, c4, c5, c6]
        all_goals congr 1
        all_goals rw [hld_eq l e]
        all_goals (repeat (first | rw [if_pos (by assumption)] | rw [if_neg (by assumption)]))
        all_goals first
        | rfl
        | (cases fnH l e.a <;> rfl)
        | (cases fnH l e.a <;> cases fnH l e.b <;> rfl)
        | (rw [map_hd hk1]; done)
        | (rw [any_q, Bool.not_not])
theorem hld_w (l : List Bx) (hf : fewB l = true) (hx : bxsB l = true) (k : Cl) (hc : clN k = true) : PCall Tryz.prog (.func 25) [.sl 7 (l.map bxrow) .no, .ag [.int .i64 k.op, .int .i64 k.a, .int .i64 k.b, .int .i64 k.n, .sl 5 (k.kids.map crow) .no]] (.bool (hld l k)) := by
 suffices h : ∀ n (k : Cl), clS k ≤ n → clN k = true → PCall Tryz.prog (.func 25) [.sl 7 (l.map bxrow) .no, .ag [.int .i64 k.op, .int .i64 k.a, .int .i64 k.b, .int .i64 k.n, .sl 5 (k.kids.map crow) .no]] (.bool (hld l k)) from h _ k (Nat.le_refl _) hc
 intro n
 induction n with
 | zero => intro e he; have := clS_pos e; omega
 | succ n ih => exact fun e he hc => hld_s l hf hx e hc fun k hk h => ih k (by omega) h
theorem hol_w (l : List Bx) (hf : fewB l = true) (e : Cl) : PCall Tryz.prog (.func 12) [.sl 7 (l.map bxrow) .no, .ag [.int .i64 e.op, .int .i64 e.a, .int .i64 e.b, .int .i64 e.n, .sl 5 (e.kids.map crow) .no]] (.tup [.bool (bxsB l && clB e && hld l e), .int .i64 (if (bxsB l && clB e) = true then 0 else 1)]) := by
 refine PCall.le ?_
 refine fn_ Tryz.func12 (by rfl) (by rfl) (rs := [.tmp 4, .tmp 5]) (by rfl) (by simp [Tryz.f12]) ?_
 refine sr_ [0, 3] [3] [] fun κ ξ hκ hξ => ?_
 try simp +decide only [go_sem]
 repeat with_reducible refine an_ ?_
 refine hκ _ _ ?_; clear hκ hξ ξ κ
 refine sq ?_
 refine sr_ [0, 3, 13] [] [(3, 9)] fun κ ξ hκ hξ => ?_
 try simp +decide only [go_sem]
 repeat with_reducible refine an_ ?_
 refine callF (bxs_w _ _) ?_
 try simp +decide only [go_sem]
 repeat with_reducible refine an_ ?_
 refine vo_gc ?_
 try simp +decide only [go_sem]
 refine gcF (clv_w _) ?_
 try simp +decide only [go_sem]
 repeat with_reducible refine an_ ?_
 refine hκ _ _ ?_; clear hκ hξ ξ κ
 refine cd_ (fun c0 => ?_) (fun c0 => ?_)
 ·simp only [go_sem] at c0
  refine sr_ [4, 5] [] [] fun κ ξ hκ hξ => ?_
  try simp +decide only [go_sem, c0]
  repeat with_reducible refine an_ ?_
  refine hκ _ _ ?_; clear hκ hξ ξ κ
  refine rt ?_
  refine retE ?_
  simp +decide only [go_sem, resD, resV, c0]
  all_goals (rcases c0 with c | c <;> simp [c])
 ·simp only [go_sem] at c0
  have hx : bxsB l = true := by simpa using c0.1
  have hv : clB e = true := by simpa using c0.2
  have hc : clN e = true := by unfold clB at hv; rw [Bool.and_eq_true] at hv; exact hv.1
  refine sk ?_
  refine sr_ [4, 5] [] [] fun κ ξ hκ hξ => ?_
  try simp +decide only [go_sem, c0]
  repeat with_reducible refine an_ ?_
  refine callF (hld_w l hf hx e hc) ?_
  try simp +decide only [go_sem, c0]
  repeat with_reducible refine an_ ?_
  refine hκ _ _ ?_; clear hκ hξ ξ κ
  refine rt ?_
  refine retE ?_
  simp +decide only [go_sem, resD, resV, c0]
  all_goals simp [hx, hv]
end Go.Proofs.YtfjnohmdilmfhaaGreatDoor
/- Claim: the reference holds. Printed by a tool of our own. -/
namespace Go.Proofs.YtfjnohmdilmfhaaGreatDoor
open Go Go.RowKit
set_option linter.unusedSimpArgs false
set_option linter.unusedVariables false
set_option maxHeartbeats 4000000
set_option maxRecDepth 100000
theorem gcN {P : Program} {σ : Store} {ok : Bool} {f : D} {xs : List D} {d : D} {K : D → Store → Prop} (hk : K (.cnd false d) σ) : GCallK P (some false) ok f xs K σ := ⟨false, rfl, d, fun h => (by cases h), hk⟩
attribute [local go_sem] List.length_map rowAt_n nrow rowAt_t trow rowAt_i irow
attribute [local go_sem] rowAt_c rowAt_sn rowAt_bx snrow bxrow
theorem rhld_s (l : List Bx) (hx : bxsB l = true) (e : Cl) (hc : clN e = true) (ih : ∀ k : Cl, clS k < clS e → clN k = true → PCall Tryz.prog (.func 27) [.sl 7 (l.map bxrow) .no, .ag [.int .i64 k.op, .int .i64 k.a, .int .i64 k.b, .int .i64 k.n, .sl 5 (k.kids.map crow) .no]] (.bool (hld l k))) : PCall Tryz.prog (.func 27) [.sl 7 (l.map bxrow) .no, .ag [.int .i64 e.op, .int .i64 e.a, .int .i64 e.b, .int .i64 e.n, .sl 5 (e.kids.map crow) .no]] (.bool (hld l e)) := by
 refine PCall.ok fun hok => ?_
 simp only [okAll, D.ok, okRows, and_true, true_and, lim_eq, inR_i64', inR_i32', inR_u8', inR_u16', inR_u64'] at hok
 obtain ⟨_, ⟨h1, h2, h3, h4, hkl, hkr⟩⟩ := hok; rw [List.length_map] at hkl
 have hck := clN_1 hc
 have hoi := opC_in hck.1
 refine PCall.le ?_
 refine fn_ Tryz.func27 (by rfl) (by rfl) (rs := [.tmp 4]) (by rfl) (by simp [Tryz.f27]) ?_
 refine sr_ [0, 3] [3] [] fun κ ξ hκ hξ => ?_
 try simp +decide only [go_sem]
 repeat with_reducible refine an_ ?_
 refine hκ _ _ ?_; clear hκ hξ ξ κ
 refine sq ?_
 refine sr_ [0, 3, 12] [] [] fun κ ξ hκ hξ => ?_
 try simp +decide only [go_sem]
 repeat with_reducible refine an_ ?_
 refine hκ _ _ ?_; clear hκ hξ ξ κ
 refine cd_ (fun c0 => ?_) (fun c0 => ?_)
 ·try simp only [go_sem] at c0
  refine sr_ [4] [] [] fun κ ξ hκ hξ => ?_
  try simp +decide only [go_sem, c0]
  repeat with_reducible refine an_ ?_
  refine callF (rord_w _ _ (by assumption)) ?_
  try simp +decide only [go_sem, c0]
  repeat with_reducible refine an_ ?_
  refine hκ _ _ ?_; clear hκ hξ ξ κ
  refine rt ?_
  refine retE ?_
  simp +decide only [go_sem, resD, resV, c0]
  all_goals congr 1
  all_goals rw [hld_eq l e]
  all_goals (repeat (first | rw [if_pos (by first | assumption | omega)] | rw [if_neg (by first | assumption | omega)]))
  
 ·try simp only [go_sem] at c0
  refine sk ?_
  refine sq ?_
  refine sr_ [0, 3, 17] [] [] fun κ ξ hκ hξ => ?_
  try simp +decide only [go_sem, c0]
  repeat with_reducible refine an_ ?_
  refine hκ _ _ ?_; clear hκ hξ ξ κ
  refine cd_ (fun c1 => ?_) (fun c1 => ?_)
  ·try simp only [go_sem] at c1
   refine sr_ [0, 3, 5] [] [] fun κ ξ hκ hξ => ?_
   try simp +decide only [go_sem, c0, c1]
   repeat with_reducible refine an_ ?_
   refine hκ _ _ ?_; clear hκ hξ ξ κ
   refine sq ?_
   refine sr_ [0, 3, 5, 6] [] [] fun κ ξ hκ hξ => ?_
   try simp +decide only [go_sem, c0, c1]
   repeat with_reducible refine an_ ?_
   refine hκ _ _ ?_; clear hκ hξ ξ κ
   refine bl ?_
   refine lp (α := Nat) (fun i => mk [(0, .sl 7 (l.map bxrow) .no), (3, .el [.int .i64 e.op, .int .i64 e.a, .int .i64 e.b, .int .i64 e.n, .sl 5 (e.kids.map crow) .no]), (5, .int .i64 (((e.kids.take i).filter (hld l)).length : Nat)), (6, .int .i64 i)]) (fun _ => []) (fun i => i ≤ e.kids.length) (fun i => e.kids.length - i) 0 ⟨by omega, EnvLe.of_eq rfl, .refl _⟩ ?_
   rintro i hi
   have hcn := cnt_tk (hld l) e.kids i
   refine sq ?_
   refine sr_ [0, 3, 5, 6, 22] [] [] fun κ ξ hκ hξ => ?_
   try simp +decide only [go_sem, c0, c1]
   repeat with_reducible refine an_ ?_
   refine hκ _ _ ?_; clear hκ hξ ξ κ
   refine cd_ (fun c2 => ?_) (fun c2 => ?_)
   ·try simp only [go_sem] at c2
    refine sk ?_
    refine sq ?_
    refine bl ?_
    refine sr_ [0, 3, 5, 6, 7] [] [] fun κ ξ hκ hξ => ?_
    try simp +decide only [go_sem, c0, c1, c2]
    repeat with_reducible refine an_ ?_
    refine callF (ih (cat e.kids i) (kid_lt (by omega)) (hck.2 i (by omega))) ?_
    try simp +decide only [go_sem, c0, c1, c2]
    repeat with_reducible refine an_ ?_
    refine hκ _ _ ?_; clear hκ hξ ξ κ
    refine sr_ [0, 3, 5, 6, 32] [] [] fun κ ξ hκ hξ => ?_
    try simp +decide only [go_sem, c0, c1, c2]
    repeat with_reducible refine an_ ?_
    refine hκ _ _ ?_; clear hκ hξ ξ κ
    refine cd_ (fun c3 => ?_) (fun c3 => ?_)
    ·try simp only [go_sem] at c3
     refine rr_ [0, 3, 5, 6] [] [] fun κ ξ hκ hξ => ?_
     try simp +decide only [go_sem, c0, c1, c2, c3]
     repeat with_reducible refine an_ ?_
     refine hκ _ _ ?_; clear hκ hξ ξ κ
     refine rr_ [0, 3, 5, 6] [] [] fun κ ξ hκ hξ => ?_
     try simp +decide only [go_sem, c0, c1, c2, c3]
     repeat with_reducible refine an_ ?_
     refine hκ _ _ ?_; clear hκ hξ ξ κ
     have e1 := tk_cnt (hld l) (l := e.kids) (i := i) (by omega)
     rw [if_pos c3] at e1
     refine ⟨i + 1, ⟨by omega, by omega⟩, EnvLe.of_eq ?_, .refl _⟩
     rw [w64 (n := (i : Int) + 1) (by omega), w64 (by omega), e1]; rfl
    ·try simp only [go_sem] at c3
     refine sk ?_
     refine rr_ [0, 3, 5, 6] [] [] fun κ ξ hκ hξ => ?_
     try simp +decide only [go_sem, c0, c1, c2, c3]
     repeat with_reducible refine an_ ?_
     refine hκ _ _ ?_; clear hκ hξ ξ κ
     have e1 := tk_cnt (hld l) (l := e.kids) (i := i) (by omega)
     rw [if_neg (by rw [c3]; simp)] at e1
     refine ⟨i + 1, ⟨by omega, by omega⟩, EnvLe.of_eq ?_, .refl _⟩
     rw [w64 (n := (i : Int) + 1) (by omega), e1]; rfl
   ·try simp only [go_sem] at c2
    refine ex ?_
    refine sq ?_
    refine sr_ [3, 5, 37] [] [] fun κ ξ hκ hξ => ?_
    try simp +decide only [go_sem, c0, c1, c2]
    repeat with_reducible refine an_ ?_
    refine hκ _ _ ?_; clear hκ hξ ξ κ
    refine cd_ (fun c4 => ?_) (fun c4 => ?_)
    ·try simp only [go_sem] at c4
     refine sr_ [4] [] [] fun κ ξ hκ hξ => ?_
     try simp +decide only [go_sem, c0, c1, c2, c4]
     repeat with_reducible refine an_ ?_
     refine hκ _ _ ?_; clear hκ hξ ξ κ
     refine rt ?_
     refine retE ?_
     simp +decide only [go_sem, resD, resV, c0, c1, c2, c4]
     all_goals congr 1
     all_goals rw [hld_eq l e]
     all_goals (repeat (first | rw [if_pos (by first | assumption | omega)] | rw [if_neg (by first | assumption | omega)]))
     obtain rfl : i = e.kids.length := by omega
     rw [List.take_length]
     rw [← cnt_all, decide_eq_decide]
     omega
    ·try simp only [go_sem] at c4
     refine sk ?_
     refine sq ?_
     refine sr_ [5, 45] [] [] fun κ ξ hκ hξ => ?_
     try simp +decide only [go_sem, c0, c1, c2, c4]
     repeat with_reducible refine an_ ?_
     refine hκ _ _ ?_; clear hκ hξ ξ κ
     refine cd_ (fun c5 => ?_) (fun c5 => ?_)
     ·try simp only [go_sem] at c5
      refine sr_ [4] [] [] fun κ ξ hκ hξ => ?_
      try simp +decide only [go_sem, c0, c1, c2, c4, c5]
      repeat with_reducible refine an_ ?_
      refine hκ _ _ ?_; clear hκ hξ ξ κ
      refine rt ?_
      refine retE ?_
      simp +decide only [go_sem, resD, resV, c0, c1, c2, c4, c5]
      all_goals congr 1
      all_goals rw [hld_eq l e]
      all_goals (repeat (first | rw [if_pos (by first | assumption | omega)] | rw [if_neg (by first | assumption | omega)]))
      obtain rfl : i = e.kids.length := by omega
      rw [List.take_length]
      rw [← cnt_any, decide_eq_decide]
      omega
     ·try simp only [go_sem] at c5
      refine sk ?_
      refine sr_ [4] [] [] fun κ ξ hκ hξ => ?_
      try simp +decide only [go_sem, c0, c1, c2, c4, c5]
      repeat with_reducible refine an_ ?_
      refine hκ _ _ ?_; clear hκ hξ ξ κ
      refine rt ?_
      refine retE ?_
      simp +decide only [go_sem, resD, resV, c0, c1, c2, c4, c5]
      have ho8 : e.op = 8 := by omega
      have hk1 : e.kids.length = 1 := opC_8 (ho8 ▸ hck.1)
      all_goals congr 1
      all_goals rw [hld_eq l e]
      all_goals (repeat (first | rw [if_pos (by first | assumption | omega)] | rw [if_neg (by first | assumption | omega)]))
      obtain rfl : i = e.kids.length := by omega
      rw [List.take_length]
      rw [map_hd hk1, ← cnt_not (hld l) hk1, decide_eq_decide]
      omega
  ·try simp only [go_sem] at c1
   refine sk ?_
   refine sr_ [0, 3, 8] [] [] fun κ ξ hκ hξ => ?_
   try simp +decide only [go_sem, c0, c1]
   repeat with_reducible refine an_ ?_
   refine callF (rfind_w _ _ _) ?_
   try simp +decide only [go_sem, c0, c1]
   repeat with_reducible refine an_ ?_
   refine hκ _ _ ?_; clear hκ hξ ξ κ
   refine sq ?_
   refine sr_ [0, 3, 8, 55] [] [] fun κ ξ hκ hξ => ?_
   try simp +decide only [go_sem, c0, c1]
   repeat with_reducible refine an_ ?_
   refine hκ _ _ ?_; clear hκ hξ ξ κ
   refine cd_ (fun c6 => ?_) (fun c6 => ?_)
   ·simp only [go_sem] at c6
    have hnf : fnH l e.a = false := by
     unfold fnH
     rcases bix_cases l e.a with ⟨i, h1, h2, h3⟩ | ⟨h1, h2⟩
     ·omega
     ·rw [h2]; rfl
    refine sr_ [4] [] [] fun κ ξ hκ hξ => ?_
    try simp +decide only [go_sem, c0, c1, c6]
    repeat with_reducible refine an_ ?_
    refine hκ _ _ ?_; clear hκ hξ ξ κ
    refine rt ?_
    refine retE ?_
    simp +decide only [go_sem, resD, resV, c0, c1, c6]
    congr 1
    have ho : e.op = 1 ∨ e.op = 2 ∨ e.op = 3 ∨ e.op = 5 := by omega
    rw [hld_eq l e, hnf]
    rcases ho with h | h | h | h <;> simp [h]
   ·simp only [go_sem] at c6
    obtain ⟨m, ml, mx, mf⟩ : ∃ i, i < l.length ∧ bix l e.a = (i : Int) ∧ fnd l e.a = some (bxat l i) := by
     rcases bix_cases l e.a with ⟨i, h1, h2, h3⟩ | ⟨h1, h2⟩
     ·exact ⟨i, h1, h2, h3⟩
     ·omega
    have mb : fnB l e.a = bxat l m := by unfold fnB; rw [mf]; rfl
    have mh : fnH l e.a = true := by unfold fnH; rw [mf]; rfl
    have mi : (m : Int) < (l.length : Int) := by omega
    have mo : bxO (bxat l m) = true := mb ▸ fnB_O hx e.a
    have hq := bxO_1 mo
    have hyw : IntKind.wrap .i64 ((bxat l m).y + (bxat l m).h) = (bxat l m).y + (bxat l m).h := w64 (by omega)
    refine sk ?_
    refine sq ?_
    refine sr_ [0, 3, 8, 58] [] [] fun κ ξ hκ hξ => ?_
    try simp +decide only [go_sem, c0, c1, c6, mx, mi, hyw]
    repeat with_reducible refine an_ ?_
    refine hκ _ _ ?_; clear hκ hξ ξ κ
    refine cd_ (fun c7 => ?_) (fun c7 => ?_)
    ·try simp only [go_sem] at c7
     refine sr_ [4] [] [] fun κ ξ hκ hξ => ?_
     try simp +decide only [go_sem, c0, c1, c6, mx, mi, hyw, c7]
     repeat with_reducible refine an_ ?_
     refine callF (rfits_w _ (by assumption)) ?_
     try simp +decide only [go_sem, c0, c1, c6, mx, mi, hyw, c7]
     repeat with_reducible refine an_ ?_
     refine hκ _ _ ?_; clear hκ hξ ξ κ
     refine rt ?_
     refine retE ?_
     simp +decide only [go_sem, resD, resV, c0, c1, c6, mx, mi, hyw, c7]
     all_goals congr 1
     all_goals rw [hld_eq l e]
     all_goals (repeat (first | rw [if_pos (by first | assumption | omega)] | rw [if_neg (by first | assumption | omega)]))
     rw [mh, mb]; rfl
    ·try simp only [go_sem] at c7
     refine sk ?_
     refine sq ?_
     refine sr_ [0, 3, 8, 66] [] [] fun κ ξ hκ hξ => ?_
     try simp +decide only [go_sem, c0, c1, c6, mx, mi, hyw, c7]
     repeat with_reducible refine an_ ?_
     refine hκ _ _ ?_; clear hκ hξ ξ κ
     refine cd_ (fun c8 => ?_) (fun c8 => ?_)
     ·try simp only [go_sem] at c8
      refine srd_ [4] [] [] [] fun κ ξ hκ hξ => ?_
      try simp +decide only [go_sem, c0, c1, c6, mx, mi, hyw, c7, c8]
      repeat with_reducible refine an_ ?_
      refine hκ _ _ ?_; clear hκ hξ ξ κ
      refine rt ?_
      refine retE ?_
      simp +decide only [go_sem, resD, resV, c0, c1, c6, mx, mi, hyw, c7, c8]
      all_goals congr 1
      all_goals rw [hld_eq l e]
      all_goals (repeat (first | rw [if_pos (by first | assumption | omega)] | rw [if_neg (by first | assumption | omega)]))
      rw [mh, mb]; rfl
     ·try simp only [go_sem] at c8
      refine sk ?_
      refine sq ?_
      refine sr_ [0, 3, 8, 83] [] [] fun κ ξ hκ hξ => ?_
      try simp +decide only [go_sem, c0, c1, c6, mx, mi, hyw, c7, c8]
      repeat with_reducible refine an_ ?_
      refine hκ _ _ ?_; clear hκ hξ ξ κ
      refine cd_ (fun c9 => ?_) (fun c9 => ?_)
      ·try simp only [go_sem] at c9
       refine srd_ [4] [] [90] [] fun κ ξ hκ hξ => ?_
       try simp +decide only [go_sem, c0, c1, c6, mx, mi, hyw, c7, c8, c9]
       repeat with_reducible refine an_ ?_
       refine scallF (rfull_w _ _) ?_
       try simp +decide only [go_sem, c0, c1, c6, mx, mi, hyw, c7, c8, c9]
       repeat with_reducible refine an_ ?_
       refine hκ _ _ ?_; clear hκ hξ ξ κ
       refine rt ?_
       refine retE ?_
       simp +decide only [go_sem, resD, resV, c0, c1, c6, mx, mi, hyw, c7, c8, c9]
       all_goals congr 1
       all_goals rw [hld_eq l e]
       all_goals (repeat (first | rw [if_pos (by first | assumption | omega)] | rw [if_neg (by first | assumption | omega)]))
       rw [mh, mb]; rfl
      ·try simp only [go_sem] at c9
       refine sk ?_
       refine sr_ [0, 8, 9] [] [] fun κ ξ hκ hξ => ?_
       try simp +decide only [go_sem, c0, c1, c6, mx, mi, hyw, c7, c8, c9]
       repeat with_reducible refine an_ ?_
       refine callF (rfind_w _ _ _) ?_
       try simp +decide only [go_sem, c0, c1, c6, mx, mi, hyw, c7, c8, c9]
       repeat with_reducible refine an_ ?_
       refine hκ _ _ ?_; clear hκ hξ ξ κ
       rcases bix_cases l e.b with ⟨m2, hm2, hb2, hf2⟩ | ⟨hb2, hf2⟩
       ·have hB2 : fnB l e.b = bxat l m2 := by unfold fnB; rw [hf2]; rfl
        have hm2o : bxO (bxat l m2) = true := hB2 ▸ fnB_O hx e.b
        have hm2i : (m2 : Int) < (l.length : Int) := by omega
        have hh2 : fnH l e.b = true := by unfold fnH; rw [hf2]; rfl
        refine srd_ [4] [] [106] [(2, 97)] fun κ ξ hκ hξ => ?_
        try simp +decide only [go_sem, c0, c1, c6, mx, mi, hyw, c7, c8, c9, hb2, hm2i]
        repeat with_reducible refine an_ ?_
        refine vd_gc (by rfl) ?_
        try simp +decide only [go_sem, c0, c1, c6, mx, mi, hyw, c7, c8, c9, hb2, hm2i]
        first | refine gcF (rapt_w (bxat l m) (bxat l m2) mo hm2o) ?_ | refine gcN (d := .bool false) ?_
        try simp +decide only [go_sem, c0, c1, c6, mx, mi, hyw, c7, c8, c9, hb2, hm2i]
        repeat with_reducible refine an_ ?_
        refine hκ _ _ ?_; clear hκ hξ ξ κ
        refine rt ?_
        refine retE ?_
        simp +decide only [go_sem, resD, resV, c0, c1, c6, mx, mi, hyw, c7, c8, c9, hb2, hm2i]
        all_goals congr 1
        all_goals rw [hld_eq l e]
        all_goals (repeat (first | rw [if_pos (by first | assumption | omega)] | rw [if_neg (by first | assumption | omega)]))
        rw [mh, hh2, mb, hB2]; rfl
       ·have hh2 : fnH l e.b = false := by unfold fnH; rw [hf2]; rfl
        refine srd_ [4] [] [106] [(2, 97)] fun κ ξ hκ hξ => ?_
        try simp +decide only [go_sem, c0, c1, c6, mx, mi, hyw, c7, c8, c9, hb2]
        repeat with_reducible refine an_ ?_
        refine vd_gc (by rfl) ?_
        try simp +decide only [go_sem, c0, c1, c6, mx, mi, hyw, c7, c8, c9, hb2]
        first | refine gcF (rapt_w (bxat l m) (bxat l m2) mo hm2o) ?_ | refine gcN (d := .bool false) ?_
        try simp +decide only [go_sem, c0, c1, c6, mx, mi, hyw, c7, c8, c9, hb2]
        repeat with_reducible refine an_ ?_
        refine hκ _ _ ?_; clear hκ hξ ξ κ
        refine rt ?_
        refine retE ?_
        simp +decide only [go_sem, resD, resV, c0, c1, c6, mx, mi, hyw, c7, c8, c9, hb2]
        all_goals congr 1
        all_goals rw [hld_eq l e]
        all_goals (repeat (first | rw [if_pos (by first | assumption | omega)] | rw [if_neg (by first | assumption | omega)]))
        rw [mh, hh2]; rfl
theorem rhld_w (l : List Bx) (hx : bxsB l = true) (k : Cl) (hc : clN k = true) : PCall Tryz.prog (.func 27) [.sl 7 (l.map bxrow) .no, .ag [.int .i64 k.op, .int .i64 k.a, .int .i64 k.b, .int .i64 k.n, .sl 5 (k.kids.map crow) .no]] (.bool (hld l k)) := by
 suffices h : ∀ n (k : Cl), clS k ≤ n → clN k = true → PCall Tryz.prog (.func 27) [.sl 7 (l.map bxrow) .no, .ag [.int .i64 k.op, .int .i64 k.a, .int .i64 k.b, .int .i64 k.n, .sl 5 (k.kids.map crow) .no]] (.bool (hld l k)) from h _ k (Nat.le_refl _) hc
 intro n
 induction n with
 | zero => intro e he; have := clS_pos e; omega
 | succ n ih => exact fun e he hc => rhld_s l hx e hc fun k hk h => ih k (by omega) h
theorem rhol_w (l : List Bx) (e : Cl) : PCall Tryz.prog (.func 13) [.sl 7 (l.map bxrow) .no, .ag [.int .i64 e.op, .int .i64 e.a, .int .i64 e.b, .int .i64 e.n, .sl 5 (e.kids.map crow) .no]] (.tup [.bool (bxsB l && clB e && hld l e), .int .i64 (if (bxsB l && clB e) = true then 0 else 1)]) := by
 refine PCall.le ?_
 refine fn_ Tryz.func13 (by rfl) (by rfl) (rs := [.tmp 4, .tmp 5]) (by rfl) (by simp [Tryz.f13]) ?_
 refine sr_ [0, 3] [3] [] fun κ ξ hκ hξ => ?_
 try simp +decide only [go_sem]
 repeat with_reducible refine an_ ?_
 refine hκ _ _ ?_; clear hκ hξ ξ κ
 refine sr_ [0, 3, 6] [] [] fun κ ξ hκ hξ => ?_
 try simp +decide only [go_sem]
 repeat with_reducible refine an_ ?_
 refine callF (rbxs_w _ _) ?_
 try simp +decide only [go_sem]
 repeat with_reducible refine an_ ?_
 refine hκ _ _ ?_; clear hκ hξ ξ κ
 refine sr_ [0, 3, 6, 7] [] [] fun κ ξ hκ hξ => ?_
 try simp +decide only [go_sem]
 repeat with_reducible refine an_ ?_
 refine callF (rclv_w _) ?_
 try simp +decide only [go_sem]
 repeat with_reducible refine an_ ?_
 refine hκ _ _ ?_; clear hκ hξ ξ κ
 refine sq ?_
 refine sr_ [0, 3, 17] [] [(2, 14)] fun κ ξ hκ hξ => ?_
 try simp +decide only [go_sem]
 repeat with_reducible refine an_ ?_
 refine hκ _ _ ?_; clear hκ hξ ξ κ
 refine cd_ (fun c0 => ?_) (fun c0 => ?_)
 ·simp only [go_sem] at c0
  refine sr_ [4, 5] [] [] fun κ ξ hκ hξ => ?_
  try simp +decide only [go_sem, c0]
  repeat with_reducible refine an_ ?_
  refine hκ _ _ ?_; clear hκ hξ ξ κ
  refine rt ?_
  refine retE ?_
  simp +decide only [go_sem, resD, resV, c0]
  all_goals (rcases c0 with c | c <;> simp [c])
 ·simp only [go_sem] at c0
  have hx : bxsB l = true := by simpa using c0.1
  have hv : clB e = true := by simpa using c0.2
  have hc : clN e = true := by unfold clB at hv; rw [Bool.and_eq_true] at hv; exact hv.1
  refine sk ?_
  refine sr_ [4, 5] [] [] fun κ ξ hκ hξ => ?_
  try simp +decide only [go_sem, c0]
  repeat with_reducible refine an_ ?_
  refine callF (rhld_w l hx e hc) ?_
  try simp +decide only [go_sem, c0]
  repeat with_reducible refine an_ ?_
  refine hκ _ _ ?_; clear hκ hξ ξ κ
  refine rt ?_
  refine retE ?_
  simp +decide only [go_sem, resD, resV, c0]
  all_goals simp [hx, hv]
end Go.Proofs.YtfjnohmdilmfhaaGreatDoor

/- Claim: the reference's numbers. Printed by a tool of our own. -/
import Derived.Test.YtfjnohmdilmfhaaGreatDoorY07
namespace Go.Proofs.YtfjnohmdilmfhaaGreatDoor
open Go Go.RowKit
set_option linter.unusedSimpArgs false
set_option linter.unusedVariables false
set_option maxHeartbeats 4000000
set_option maxRecDepth 100000
/-- What the reference reads: a claim, what is left, whether. -/
def rdF (y : Cl × List W × Bool) : D := .tup [.ag [.int .i64 y.1.op, .int .i64 y.1.a, .int .i64 y.1.b, .int .i64 y.1.n, .sl 5 (y.1.kids.map crow) .no], .sl 1 (y.2.1.map srow) .no, .bool y.2.2]
def rdNo : Cl × List W × Bool := (cl0, [], false)
def nm1 (ws : List W) : Cl × List W × Bool := match ws with
 | w1 :: r => if numR w1 < 0 then rdNo else (.mk 1 (numR w1) 0 0 [], r, true)
 | _ => rdNo
def nm2 (F : Int → Int → Cl) (ws : List W) : Cl × List W × Bool := match ws with
 | w1 :: w2 :: r => if numR w1 < 0 then rdNo else if numR w2 < 0 then rdNo else (F (numR w1) (numR w2), r, true)
 | _ => rdNo
theorem wat_0 (w : W) (r : List W) : wat (w :: r) 0 = w := rfl
theorem wat_1 (w v : W) (r : List W) : wat (w :: v :: r) 1 = v := rfl
theorem w01 : IntKind.wrap .i64 ((0 : Int) + 1) = 1 := w64 (by omega)
theorem w12 : IntKind.wrap .i64 ((1 : Int) + 1) = 2 := w64 (by omega)
theorem tn2 : Int.toNat 2 = 2 := rfl
theorem rwz1 (x y : List D) (l : List (List D)) : rowAt (x :: y :: l) 1 = y := rfl
theorem drop_1 (w : W) (r : List W) : List.drop 1 (List.map srow (w :: r)) = r.map srow := rfl
theorem drop_2 (w v : W) (r : List W) : List.drop 2 (List.map srow (w :: v :: r)) = r.map srow := rfl
attribute [local go_sem] List.length_map rowAt_n nrow rowAt_t trow rowAt_i irow
attribute [local go_sem] rowAt_c rowAt_sn rowAt_bx snrow bxrow
attribute [local go_sem] rowAt_s srow rwz List.append_eq
theorem rnm1 (ws : List W) (hnb : nbW ws) (t : Tok) : PCall Tryz.prog (.func 67) [.sl 1 (ws.map srow) t, .int .i64 1, .int .i64 1] (rdF (nm1 ws)) := by
 refine PCall.le ?_
 refine fn_ Tryz.func67 (by rfl) (by rfl) (rs := [.cell 6 25, .tmp 7, .tmp 8]) (by rfl) (by simp [Tryz.f67]) ?_
 refine sr_ [0, 1, 2, 6] [] [] fun κ ξ hκ hξ => ?_
 try simp +decide only [go_sem, wat_0, wat_1, drop_1, drop_2, w01, w12, rwz1, List.take_length, Int.toNat_one, tn2]
 repeat with_reducible refine an_ ?_
 intro b6 hb6
 try simp +decide only [go_sem, wat_0, wat_1, drop_1, drop_2, w01, w12, rwz1, List.take_length, Int.toNat_one, tn2, hb6]
 repeat with_reducible refine an_ ?_
 refine hκ _ _ ?_; clear hκ hξ ξ κ
 refine sq ?_
 refine sr_ [0, 1, 2, 6, 15] [] [] fun κ ξ hκ hξ => ?_
 try simp +decide only [go_sem, wat_0, wat_1, drop_1, drop_2, w01, w12, rwz1, List.take_length, Int.toNat_one, tn2, hb6]
 repeat with_reducible refine an_ ?_
 refine hκ _ _ ?_; clear hκ hξ ξ κ
 refine cd_ (fun c0 => ?_) (fun c0 => ?_)
 ·simp only [go_sem, decide_eq_true_eq, decide_eq_false_iff_not, Bool.and_eq_true, Bool.and_eq_false_iff, Bool.not_eq_true', Bool.not_eq_false'] at c0
  have e : nm1 ws = rdNo := by cases ws with
   | nil => rfl
   | cons w r => simp only [List.length_cons] at c0; omega
  refine sr_ [6, 7, 8] [] [] fun κ ξ hκ hξ => ?_
  try simp +decide only [go_sem, wat_0, wat_1, drop_1, drop_2, w01, w12, rwz1, List.take_length, Int.toNat_one, tn2, hb6, c0]
  repeat with_reducible refine an_ ?_
  refine hκ _ _ ?_; clear hκ hξ ξ κ
  refine rt ?_
  refine retL ?_
  simp +decide only [go_sem, resD, resV, wat_0, wat_1, drop_1, drop_2, w01, w12, rwz1, List.take_length, Int.toNat_one, tn2, hb6, c0]
  rw [e]
  exact DLe.tup ⟨DLe.ag ⟨DLe.refl _, DLe.refl _, DLe.refl _, DLe.refl _, DLe.nil _ _ _, trivial⟩, DLe.nil _ _ _, DLe.refl _, trivial⟩
 ·simp only [go_sem, decide_eq_true_eq, decide_eq_false_iff_not, Bool.and_eq_true, Bool.and_eq_false_iff, Bool.not_eq_true', Bool.not_eq_false'] at c0
  obtain ⟨w1, r, rfl⟩ : ∃ w1 r, ws = w1 :: r := by cases ws with
   | nil => simp at c0
   | cons w r => exact ⟨w, r, rfl⟩
  have hl1 := (hnb w1 (by simp)).2
  have hlen : (0 : Int) < ((r.length + 1 : Nat) : Int) ∧ (1 : Int) ≤ ((r.length + 1 : Nat) : Int) := by omega
  refine sk ?_
  refine sr_ [0, 1, 2, 6, 9] [] [] fun κ ξ hκ hξ => ?_
  try simp +decide only [go_sem, wat_0, wat_1, drop_1, drop_2, w01, w12, rwz1, List.take_length, Int.toNat_one, tn2, hb6, c0, hlen]
  repeat with_reducible refine an_ ?_
  intro b9 hb9
  try simp +decide only [go_sem, wat_0, wat_1, drop_1, drop_2, w01, w12, rwz1, List.take_length, Int.toNat_one, tn2, hb6, c0, hlen, hb9]
  repeat with_reducible refine an_ ?_
  refine hκ _ _ ?_; clear hκ hξ ξ κ
  refine sq ?_
  refine sr_ [0, 1, 2, 6, 9, 10] [] [] fun κ ξ hκ hξ => ?_
  try simp +decide only [go_sem, wat_0, wat_1, drop_1, drop_2, w01, w12, rwz1, List.take_length, Int.toNat_one, tn2, hb6, c0, hlen, hb9]
  repeat with_reducible refine an_ ?_
  refine hκ _ _ ?_; clear hκ hξ ξ κ
  refine bl ?_
  refine lpN 2 ?_
  refine rnd ?_
  refine sq ?_
  refine sr_ [0, 1, 2, 6, 9, 10, 21] [] [] fun κ ξ hκ hξ => ?_
  try simp +decide only [go_sem, wat_0, wat_1, drop_1, drop_2, w01, w12, rwz1, List.take_length, Int.toNat_one, tn2, hb6, c0, hlen, hb9]
  repeat with_reducible refine an_ ?_
  refine hκ _ _ ?_; clear hκ hξ ξ κ
  refine cdt (by rfl) ?_
  refine sk ?_
  refine sq ?_
  refine bl ?_
  refine sr_ [0, 1, 2, 6, 9, 10, 11] [] [] fun κ ξ hκ hξ => ?_
  try simp +decide only [go_sem, wat_0, wat_1, drop_1, drop_2, w01, w12, rwz1, List.take_length, Int.toNat_one, tn2, hb6, c0, hlen, hb9]
  repeat with_reducible refine an_ ?_
  refine callF (rnu_w _ hl1) ?_
  try simp +decide only [go_sem, wat_0, wat_1, drop_1, drop_2, w01, w12, rwz1, List.take_length, Int.toNat_one, tn2, hb6, c0, hlen, hb9]
  repeat with_reducible refine an_ ?_
  refine hκ _ _ ?_; clear hκ hξ ξ κ
  refine sq ?_
  refine sr_ [0, 1, 2, 6, 9, 10, 11, 30] [] [] fun κ ξ hκ hξ => ?_
  try simp +decide only [go_sem, wat_0, wat_1, drop_1, drop_2, w01, w12, rwz1, List.take_length, Int.toNat_one, tn2, hb6, c0, hlen, hb9]
  repeat with_reducible refine an_ ?_
  refine hκ _ _ ?_; clear hκ hξ ξ κ
  refine cd_ (fun c1 => ?_) (fun c1 => ?_)
  ·simp only [go_sem, decide_eq_true_eq, decide_eq_false_iff_not, Bool.and_eq_true, Bool.and_eq_false_iff, Bool.not_eq_true', Bool.not_eq_false'] at c1
   refine sr_ [6, 7, 8] [] [] fun κ ξ hκ hξ => ?_
   try simp +decide only [go_sem, wat_0, wat_1, drop_1, drop_2, w01, w12, rwz1, List.take_length, Int.toNat_one, tn2, hb6, c0, hlen, hb9, c1]
   repeat with_reducible refine an_ ?_
   refine hκ _ _ ?_; clear hκ hξ ξ κ
   refine rt ?_
   refine retL ?_
   simp +decide only [go_sem, resD, resV, wat_0, wat_1, drop_1, drop_2, w01, w12, rwz1, List.take_length, Int.toNat_one, tn2, hb6, c0, hlen, hb9, c1]
   rw [show nm1 (w1 :: r) = rdNo from if_pos c1]
   exact DLe.tup ⟨DLe.ag ⟨DLe.refl _, DLe.refl _, DLe.refl _, DLe.refl _, DLe.nil _ _ _, trivial⟩, DLe.nil _ _ _, DLe.refl _, trivial⟩
  ·simp only [go_sem, decide_eq_true_eq, decide_eq_false_iff_not, Bool.and_eq_true, Bool.and_eq_false_iff, Bool.not_eq_true', Bool.not_eq_false'] at c1
   refine sk ?_
   refine sr_ [0, 1, 2, 6, 9, 10, 11, 33] [] [] fun κ ξ hκ hξ => ?_
   try simp +decide only [go_sem, wat_0, wat_1, drop_1, drop_2, w01, w12, rwz1, List.take_length, Int.toNat_one, tn2, hb6, c0, hlen, hb9, c1]
   repeat with_reducible refine an_ ?_
   refine hκ _ _ ?_; clear hκ hξ ξ κ
   refine cdt (by rfl) ?_
   refine rr_ [0, 1, 2, 6, 9, 10] [] [] fun κ ξ hκ hξ => ?_
   try simp +decide only [go_sem, wat_0, wat_1, drop_1, drop_2, w01, w12, rwz1, List.take_length, Int.toNat_one, tn2, hb6, c0, hlen, hb9, c1]
   repeat with_reducible refine an_ ?_
   refine hκ _ _ ?_; clear hκ hξ ξ κ
   refine rr_ [0, 1, 2, 6, 9, 10] [] [] fun κ ξ hκ hξ => ?_
   try simp +decide only [go_sem, wat_0, wat_1, drop_1, drop_2, w01, w12, rwz1, List.take_length, Int.toNat_one, tn2, hb6, c0, hlen, hb9, c1]
   repeat with_reducible refine an_ ?_
   refine hκ _ _ ?_; clear hκ hξ ξ κ
   refine rnd ?_
   refine sq ?_
   refine sr_ [0, 1, 2, 6, 9, 10, 21] [] [] fun κ ξ hκ hξ => ?_
   try simp +decide only [go_sem, wat_0, wat_1, drop_1, drop_2, w01, w12, rwz1, List.take_length, Int.toNat_one, tn2, hb6, c0, hlen, hb9, c1]
   repeat with_reducible refine an_ ?_
   refine hκ _ _ ?_; clear hκ hξ ξ κ
   refine cdf (by rfl) ?_
   refine ex ?_
   refine srd_ [6, 7, 8] [] [] [] fun κ ξ hκ hξ => ?_
   try simp +decide only [go_sem, wat_0, wat_1, drop_1, drop_2, w01, w12, rwz1, List.take_length, Int.toNat_one, tn2, hb6, c0, hlen, hb9, c1]
   repeat with_reducible refine an_ ?_
   refine hκ _ _ ?_; clear hκ hξ ξ κ
   refine rt ?_
   refine retL ?_
   simp +decide only [go_sem, resD, resV, wat_0, wat_1, drop_1, drop_2, w01, w12, rwz1, List.take_length, Int.toNat_one, tn2, hb6, c0, hlen, hb9, c1]
   rw [show nm1 (w1 :: r) = (.mk 1 (numR w1) 0 0 [], r, true) from if_neg c1]
   exact DLe.tup ⟨DLe.ag ⟨DLe.refl _, DLe.refl _, DLe.refl _, DLe.refl _, DLe.nil _ _ _, trivial⟩, DLe.refl _, DLe.refl _, trivial⟩
theorem rnm2 (ws : List W) (hnb : nbW ws) (t : Tok) : PCall Tryz.prog (.func 67) [.sl 1 (ws.map srow) t, .int .i64 2, .int .i64 2] (rdF (nm2 (fun a b => (.mk 2 a b 0 [])) ws)) := by
 refine PCall.le ?_
 refine fn_ Tryz.func67 (by rfl) (by rfl) (rs := [.cell 6 25, .tmp 7, .tmp 8]) (by rfl) (by simp [Tryz.f67]) ?_
 refine sr_ [0, 1, 2, 6] [] [] fun κ ξ hκ hξ => ?_
 try simp +decide only [go_sem, wat_0, wat_1, drop_1, drop_2, w01, w12, rwz1, List.take_length, Int.toNat_one, tn2]
 repeat with_reducible refine an_ ?_
 intro b6 hb6
 try simp +decide only [go_sem, wat_0, wat_1, drop_1, drop_2, w01, w12, rwz1, List.take_length, Int.toNat_one, tn2, hb6]
 repeat with_reducible refine an_ ?_
 refine hκ _ _ ?_; clear hκ hξ ξ κ
 refine sq ?_
 refine sr_ [0, 1, 2, 6, 15] [] [] fun κ ξ hκ hξ => ?_
 try simp +decide only [go_sem, wat_0, wat_1, drop_1, drop_2, w01, w12, rwz1, List.take_length, Int.toNat_one, tn2, hb6]
 repeat with_reducible refine an_ ?_
 refine hκ _ _ ?_; clear hκ hξ ξ κ
 refine cd_ (fun c0 => ?_) (fun c0 => ?_)
 ·simp only [go_sem, decide_eq_true_eq, decide_eq_false_iff_not, Bool.and_eq_true, Bool.and_eq_false_iff, Bool.not_eq_true', Bool.not_eq_false'] at c0
  have e : nm2 (fun a b => (.mk 2 a b 0 [])) ws = rdNo := by
   match ws, c0 with
   | [], _ => rfl
   | [_], _ => rfl
   | _ :: _ :: _, c0 => simp only [List.length_cons] at c0; omega
  refine sr_ [6, 7, 8] [] [] fun κ ξ hκ hξ => ?_
  try simp +decide only [go_sem, wat_0, wat_1, drop_1, drop_2, w01, w12, rwz1, List.take_length, Int.toNat_one, tn2, hb6, c0]
  repeat with_reducible refine an_ ?_
  refine hκ _ _ ?_; clear hκ hξ ξ κ
  refine rt ?_
  refine retL ?_
  simp +decide only [go_sem, resD, resV, wat_0, wat_1, drop_1, drop_2, w01, w12, rwz1, List.take_length, Int.toNat_one, tn2, hb6, c0]
  rw [e]
  exact DLe.tup ⟨DLe.ag ⟨DLe.refl _, DLe.refl _, DLe.refl _, DLe.refl _, DLe.nil _ _ _, trivial⟩, DLe.nil _ _ _, DLe.refl _, trivial⟩
 ·simp only [go_sem, decide_eq_true_eq, decide_eq_false_iff_not, Bool.and_eq_true, Bool.and_eq_false_iff, Bool.not_eq_true', Bool.not_eq_false'] at c0
  obtain ⟨w1, w2, r, rfl⟩ : ∃ w1 w2 r, ws = w1 :: w2 :: r := by
   match ws, c0 with
   | [], c0 => simp at c0
   | [_], c0 => simp at c0
   | a :: b :: r, _ => exact ⟨a, b, r, rfl⟩
  have hl1 := (hnb w1 (by simp)).2
  have hl2 := (hnb w2 (by simp)).2
  have hlen : (0 : Int) < ((r.length + 1 + 1 : Nat) : Int) ∧ (1 : Int) < ((r.length + 1 + 1 : Nat) : Int) ∧ (2 : Int) ≤ ((r.length + 1 + 1 : Nat) : Int) := by omega
  refine sk ?_
  refine sr_ [0, 1, 2, 6, 9] [] [] fun κ ξ hκ hξ => ?_
  try simp +decide only [go_sem, wat_0, wat_1, drop_1, drop_2, w01, w12, rwz1, List.take_length, Int.toNat_one, tn2, hb6, c0, hlen]
  repeat with_reducible refine an_ ?_
  intro b9 hb9
  try simp +decide only [go_sem, wat_0, wat_1, drop_1, drop_2, w01, w12, rwz1, List.take_length, Int.toNat_one, tn2, hb6, c0, hlen, hb9]
  repeat with_reducible refine an_ ?_
  refine hκ _ _ ?_; clear hκ hξ ξ κ
  refine sq ?_
  refine sr_ [0, 1, 2, 6, 9, 10] [] [] fun κ ξ hκ hξ => ?_
  try simp +decide only [go_sem, wat_0, wat_1, drop_1, drop_2, w01, w12, rwz1, List.take_length, Int.toNat_one, tn2, hb6, c0, hlen, hb9]
  repeat with_reducible refine an_ ?_
  refine hκ _ _ ?_; clear hκ hξ ξ κ
  refine bl ?_
  refine lpN 3 ?_
  refine rnd ?_
  refine sq ?_
  refine sr_ [0, 1, 2, 6, 9, 10, 21] [] [] fun κ ξ hκ hξ => ?_
  try simp +decide only [go_sem, wat_0, wat_1, drop_1, drop_2, w01, w12, rwz1, List.take_length, Int.toNat_one, tn2, hb6, c0, hlen, hb9]
  repeat with_reducible refine an_ ?_
  refine hκ _ _ ?_; clear hκ hξ ξ κ
  refine cdt (by rfl) ?_
  refine sk ?_
  refine sq ?_
  refine bl ?_
  refine sr_ [0, 1, 2, 6, 9, 10, 11] [] [] fun κ ξ hκ hξ => ?_
  try simp +decide only [go_sem, wat_0, wat_1, drop_1, drop_2, w01, w12, rwz1, List.take_length, Int.toNat_one, tn2, hb6, c0, hlen, hb9]
  repeat with_reducible refine an_ ?_
  refine callF (rnu_w _ (by first | exact hl1 | exact hl2)) ?_
  try simp +decide only [go_sem, wat_0, wat_1, drop_1, drop_2, w01, w12, rwz1, List.take_length, Int.toNat_one, tn2, hb6, c0, hlen, hb9]
  repeat with_reducible refine an_ ?_
  refine hκ _ _ ?_; clear hκ hξ ξ κ
  refine sq ?_
  refine sr_ [0, 1, 2, 6, 9, 10, 11, 30] [] [] fun κ ξ hκ hξ => ?_
  try simp +decide only [go_sem, wat_0, wat_1, drop_1, drop_2, w01, w12, rwz1, List.take_length, Int.toNat_one, tn2, hb6, c0, hlen, hb9]
  repeat with_reducible refine an_ ?_
  refine hκ _ _ ?_; clear hκ hξ ξ κ
  refine cd_ (fun c1 => ?_) (fun c1 => ?_)
  ·simp only [go_sem, decide_eq_true_eq, decide_eq_false_iff_not, Bool.and_eq_true, Bool.and_eq_false_iff, Bool.not_eq_true', Bool.not_eq_false'] at c1
   refine sr_ [6, 7, 8] [] [] fun κ ξ hκ hξ => ?_
   try simp +decide only [go_sem, wat_0, wat_1, drop_1, drop_2, w01, w12, rwz1, List.take_length, Int.toNat_one, tn2, hb6, c0, hlen, hb9, c1]
   repeat with_reducible refine an_ ?_
   refine hκ _ _ ?_; clear hκ hξ ξ κ
   refine rt ?_
   refine retL ?_
   simp +decide only [go_sem, resD, resV, wat_0, wat_1, drop_1, drop_2, w01, w12, rwz1, List.take_length, Int.toNat_one, tn2, hb6, c0, hlen, hb9, c1]
   rw [show nm2 (fun a b => (.mk 2 a b 0 [])) (w1 :: w2 :: r) = rdNo from if_pos c1]
   exact DLe.tup ⟨DLe.ag ⟨DLe.refl _, DLe.refl _, DLe.refl _, DLe.refl _, DLe.nil _ _ _, trivial⟩, DLe.nil _ _ _, DLe.refl _, trivial⟩
  ·simp only [go_sem, decide_eq_true_eq, decide_eq_false_iff_not, Bool.and_eq_true, Bool.and_eq_false_iff, Bool.not_eq_true', Bool.not_eq_false'] at c1
   refine sk ?_
   refine sr_ [0, 1, 2, 6, 9, 10, 11, 33] [] [] fun κ ξ hκ hξ => ?_
   try simp +decide only [go_sem, wat_0, wat_1, drop_1, drop_2, w01, w12, rwz1, List.take_length, Int.toNat_one, tn2, hb6, c0, hlen, hb9, c1]
   repeat with_reducible refine an_ ?_
   refine hκ _ _ ?_; clear hκ hξ ξ κ
   refine cd_ (fun c2 => ?_) (fun c2 => ?_)
   ·skip
    refine rr_ [0, 1, 2, 6, 9, 10] [] [] fun κ ξ hκ hξ => ?_
    try simp +decide only [go_sem, wat_0, wat_1, drop_1, drop_2, w01, w12, rwz1, List.take_length, Int.toNat_one, tn2, hb6, c0, hlen, hb9, c1, c2]
    repeat with_reducible refine an_ ?_
    refine hκ _ _ ?_; clear hκ hξ ξ κ
    refine rr_ [0, 1, 2, 6, 9, 10] [] [] fun κ ξ hκ hξ => ?_
    try simp +decide only [go_sem, wat_0, wat_1, drop_1, drop_2, w01, w12, rwz1, List.take_length, Int.toNat_one, tn2, hb6, c0, hlen, hb9, c1, c2]
    repeat with_reducible refine an_ ?_
    refine hκ _ _ ?_; clear hκ hξ ξ κ
    refine rnd ?_
    refine sq ?_
    refine sr_ [0, 1, 2, 6, 9, 10, 21] [] [] fun κ ξ hκ hξ => ?_
    try simp +decide only [go_sem, wat_0, wat_1, drop_1, drop_2, w01, w12, rwz1, List.take_length, Int.toNat_one, tn2, hb6, c0, hlen, hb9, c1, c2]
    repeat with_reducible refine an_ ?_
    refine hκ _ _ ?_; clear hκ hξ ξ κ
    refine cdt (by rfl) ?_
    refine sk ?_
    refine sq ?_
    refine bl ?_
    refine sr_ [0, 1, 2, 6, 9, 10, 11] [] [] fun κ ξ hκ hξ => ?_
    try simp +decide only [go_sem, wat_0, wat_1, drop_1, drop_2, w01, w12, rwz1, List.take_length, Int.toNat_one, tn2, hb6, c0, hlen, hb9, c1, c2]
    repeat with_reducible refine an_ ?_
    refine callF (rnu_w _ (by first | exact hl1 | exact hl2)) ?_
    try simp +decide only [go_sem, wat_0, wat_1, drop_1, drop_2, w01, w12, rwz1, List.take_length, Int.toNat_one, tn2, hb6, c0, hlen, hb9, c1, c2]
    repeat with_reducible refine an_ ?_
    refine hκ _ _ ?_; clear hκ hξ ξ κ
    refine sq ?_
    refine sr_ [0, 1, 2, 6, 9, 10, 11, 30] [] [] fun κ ξ hκ hξ => ?_
    try simp +decide only [go_sem, wat_0, wat_1, drop_1, drop_2, w01, w12, rwz1, List.take_length, Int.toNat_one, tn2, hb6, c0, hlen, hb9, c1, c2]
    repeat with_reducible refine an_ ?_
    refine hκ _ _ ?_; clear hκ hξ ξ κ
    refine cd_ (fun c3 => ?_) (fun c3 => ?_)
    ·simp only [go_sem, decide_eq_true_eq, decide_eq_false_iff_not, Bool.and_eq_true, Bool.and_eq_false_iff, Bool.not_eq_true', Bool.not_eq_false'] at c3
     refine sr_ [6, 7, 8] [] [] fun κ ξ hκ hξ => ?_
     try simp +decide only [go_sem, wat_0, wat_1, drop_1, drop_2, w01, w12, rwz1, List.take_length, Int.toNat_one, tn2, hb6, c0, hlen, hb9, c1, c2, c3]
     repeat with_reducible refine an_ ?_
     refine hκ _ _ ?_; clear hκ hξ ξ κ
     refine rt ?_
     refine retL ?_
     simp +decide only [go_sem, resD, resV, wat_0, wat_1, drop_1, drop_2, w01, w12, rwz1, List.take_length, Int.toNat_one, tn2, hb6, c0, hlen, hb9, c1, c2, c3]
     rw [show nm2 (fun a b => (.mk 2 a b 0 [])) (w1 :: w2 :: r) = rdNo from (if_neg c1).trans (if_pos c3)]
     exact DLe.tup ⟨DLe.ag ⟨DLe.refl _, DLe.refl _, DLe.refl _, DLe.refl _, DLe.nil _ _ _, trivial⟩, DLe.nil _ _ _, DLe.refl _, trivial⟩
    ·simp only [go_sem, decide_eq_true_eq, decide_eq_false_iff_not, Bool.and_eq_true, Bool.and_eq_false_iff, Bool.not_eq_true', Bool.not_eq_false'] at c3
     refine sk ?_
     refine sr_ [0, 1, 2, 6, 9, 10, 11, 33] [] [] fun κ ξ hκ hξ => ?_
     try simp +decide only [go_sem, wat_0, wat_1, drop_1, drop_2, w01, w12, rwz1, List.take_length, Int.toNat_one, tn2, hb6, c0, hlen, hb9, c1, c2, c3]
     repeat with_reducible refine an_ ?_
     refine hκ _ _ ?_; clear hκ hξ ξ κ
     refine cd_ (fun c4 => ?_) (fun c4 => ?_)
     ·cases c4
     ·skip
      refine sr_ [0, 1, 2, 6, 9, 10, 11, 37] [] [] fun κ ξ hκ hξ => ?_
      try simp +decide only [go_sem, wat_0, wat_1, drop_1, drop_2, w01, w12, rwz1, List.take_length, Int.toNat_one, tn2, hb6, c0, hlen, hb9, c1, c2, c3, c4]
      repeat with_reducible refine an_ ?_
      refine hκ _ _ ?_; clear hκ hξ ξ κ
      refine cd_ (fun c5 => ?_) (fun c5 => ?_)
      ·skip
       refine rr_ [0, 1, 2, 6, 9, 10] [] [] fun κ ξ hκ hξ => ?_
       try simp +decide only [go_sem, wat_0, wat_1, drop_1, drop_2, w01, w12, rwz1, List.take_length, Int.toNat_one, tn2, hb6, c0, hlen, hb9, c1, c2, c3, c4, c5]
       repeat with_reducible refine an_ ?_
       refine hκ _ _ ?_; clear hκ hξ ξ κ
       refine rr_ [0, 1, 2, 6, 9, 10] [] [] fun κ ξ hκ hξ => ?_
       try simp +decide only [go_sem, wat_0, wat_1, drop_1, drop_2, w01, w12, rwz1, List.take_length, Int.toNat_one, tn2, hb6, c0, hlen, hb9, c1, c2, c3, c4, c5]
       repeat with_reducible refine an_ ?_
       refine hκ _ _ ?_; clear hκ hξ ξ κ
       refine rnd ?_
       refine sq ?_
       refine sr_ [0, 1, 2, 6, 9, 10, 21] [] [] fun κ ξ hκ hξ => ?_
       try simp +decide only [go_sem, wat_0, wat_1, drop_1, drop_2, w01, w12, rwz1, List.take_length, Int.toNat_one, tn2, hb6, c0, hlen, hb9, c1, c2, c3, c4, c5]
       repeat with_reducible refine an_ ?_
       refine hκ _ _ ?_; clear hκ hξ ξ κ
       refine cdf (by rfl) ?_
       refine ex ?_
       refine srd_ [6, 7, 8] [] [] [] fun κ ξ hκ hξ => ?_
       try simp +decide only [go_sem, wat_0, wat_1, drop_1, drop_2, w01, w12, rwz1, List.take_length, Int.toNat_one, tn2, hb6, c0, hlen, hb9, c1, c2, c3, c4, c5]
       repeat with_reducible refine an_ ?_
       refine hκ _ _ ?_; clear hκ hξ ξ κ
       refine rt ?_
       refine retL ?_
       simp +decide only [go_sem, resD, resV, wat_0, wat_1, drop_1, drop_2, w01, w12, rwz1, List.take_length, Int.toNat_one, tn2, hb6, c0, hlen, hb9, c1, c2, c3, c4, c5]
       rw [show nm2 (fun a b => (.mk 2 a b 0 [])) (w1 :: w2 :: r) = ((.mk 2 (numR w1) (numR w2) 0 []), r, true) from (if_neg c1).trans (if_neg c3)]
       exact DLe.tup ⟨DLe.ag ⟨DLe.refl _, DLe.refl _, DLe.refl _, DLe.refl _, DLe.nil _ _ _, trivial⟩, DLe.refl _, DLe.refl _, trivial⟩
      ·cases c5
   ·cases c2
theorem rnm3 (ws : List W) (hnb : nbW ws) (t : Tok) : PCall Tryz.prog (.func 67) [.sl 1 (ws.map srow) t, .int .i64 3, .int .i64 2] (rdF (nm2 (fun a b => (.mk 3 a 0 b [])) ws)) := by
 refine PCall.le ?_
 refine fn_ Tryz.func67 (by rfl) (by rfl) (rs := [.cell 6 25, .tmp 7, .tmp 8]) (by rfl) (by simp [Tryz.f67]) ?_
 refine sr_ [0, 1, 2, 6] [] [] fun κ ξ hκ hξ => ?_
 try simp +decide only [go_sem, wat_0, wat_1, drop_1, drop_2, w01, w12, rwz1, List.take_length, Int.toNat_one, tn2]
 repeat with_reducible refine an_ ?_
 intro b6 hb6
 try simp +decide only [go_sem, wat_0, wat_1, drop_1, drop_2, w01, w12, rwz1, List.take_length, Int.toNat_one, tn2, hb6]
 repeat with_reducible refine an_ ?_
 refine hκ _ _ ?_; clear hκ hξ ξ κ
 refine sq ?_
 refine sr_ [0, 1, 2, 6, 15] [] [] fun κ ξ hκ hξ => ?_
 try simp +decide only [go_sem, wat_0, wat_1, drop_1, drop_2, w01, w12, rwz1, List.take_length, Int.toNat_one, tn2, hb6]
 repeat with_reducible refine an_ ?_
 refine hκ _ _ ?_; clear hκ hξ ξ κ
 refine cd_ (fun c0 => ?_) (fun c0 => ?_)
 ·simp only [go_sem, decide_eq_true_eq, decide_eq_false_iff_not, Bool.and_eq_true, Bool.and_eq_false_iff, Bool.not_eq_true', Bool.not_eq_false'] at c0
  have e : nm2 (fun a b => (.mk 3 a 0 b [])) ws = rdNo := by
   match ws, c0 with
   | [], _ => rfl
   | [_], _ => rfl
   | _ :: _ :: _, c0 => simp only [List.length_cons] at c0; omega
  refine sr_ [6, 7, 8] [] [] fun κ ξ hκ hξ => ?_
  try simp +decide only [go_sem, wat_0, wat_1, drop_1, drop_2, w01, w12, rwz1, List.take_length, Int.toNat_one, tn2, hb6, c0]
  repeat with_reducible refine an_ ?_
  refine hκ _ _ ?_; clear hκ hξ ξ κ
  refine rt ?_
  refine retL ?_
  simp +decide only [go_sem, resD, resV, wat_0, wat_1, drop_1, drop_2, w01, w12, rwz1, List.take_length, Int.toNat_one, tn2, hb6, c0]
  rw [e]
  exact DLe.tup ⟨DLe.ag ⟨DLe.refl _, DLe.refl _, DLe.refl _, DLe.refl _, DLe.nil _ _ _, trivial⟩, DLe.nil _ _ _, DLe.refl _, trivial⟩
 ·simp only [go_sem, decide_eq_true_eq, decide_eq_false_iff_not, Bool.and_eq_true, Bool.and_eq_false_iff, Bool.not_eq_true', Bool.not_eq_false'] at c0
  obtain ⟨w1, w2, r, rfl⟩ : ∃ w1 w2 r, ws = w1 :: w2 :: r := by
   match ws, c0 with
   | [], c0 => simp at c0
   | [_], c0 => simp at c0
   | a :: b :: r, _ => exact ⟨a, b, r, rfl⟩
  have hl1 := (hnb w1 (by simp)).2
  have hl2 := (hnb w2 (by simp)).2
  have hlen : (0 : Int) < ((r.length + 1 + 1 : Nat) : Int) ∧ (1 : Int) < ((r.length + 1 + 1 : Nat) : Int) ∧ (2 : Int) ≤ ((r.length + 1 + 1 : Nat) : Int) := by omega
  refine sk ?_
  refine sr_ [0, 1, 2, 6, 9] [] [] fun κ ξ hκ hξ => ?_
  try simp +decide only [go_sem, wat_0, wat_1, drop_1, drop_2, w01, w12, rwz1, List.take_length, Int.toNat_one, tn2, hb6, c0, hlen]
  repeat with_reducible refine an_ ?_
  intro b9 hb9
  try simp +decide only [go_sem, wat_0, wat_1, drop_1, drop_2, w01, w12, rwz1, List.take_length, Int.toNat_one, tn2, hb6, c0, hlen, hb9]
  repeat with_reducible refine an_ ?_
  refine hκ _ _ ?_; clear hκ hξ ξ κ
  refine sq ?_
  refine sr_ [0, 1, 2, 6, 9, 10] [] [] fun κ ξ hκ hξ => ?_
  try simp +decide only [go_sem, wat_0, wat_1, drop_1, drop_2, w01, w12, rwz1, List.take_length, Int.toNat_one, tn2, hb6, c0, hlen, hb9]
  repeat with_reducible refine an_ ?_
  refine hκ _ _ ?_; clear hκ hξ ξ κ
  refine bl ?_
  refine lpN 3 ?_
  refine rnd ?_
  refine sq ?_
  refine sr_ [0, 1, 2, 6, 9, 10, 21] [] [] fun κ ξ hκ hξ => ?_
  try simp +decide only [go_sem, wat_0, wat_1, drop_1, drop_2, w01, w12, rwz1, List.take_length, Int.toNat_one, tn2, hb6, c0, hlen, hb9]
  repeat with_reducible refine an_ ?_
  refine hκ _ _ ?_; clear hκ hξ ξ κ
  refine cdt (by rfl) ?_
  refine sk ?_
  refine sq ?_
  refine bl ?_
  refine sr_ [0, 1, 2, 6, 9, 10, 11] [] [] fun κ ξ hκ hξ => ?_
  try simp +decide only [go_sem, wat_0, wat_1, drop_1, drop_2, w01, w12, rwz1, List.take_length, Int.toNat_one, tn2, hb6, c0, hlen, hb9]
  repeat with_reducible refine an_ ?_
  refine callF (rnu_w _ (by first | exact hl1 | exact hl2)) ?_
  try simp +decide only [go_sem, wat_0, wat_1, drop_1, drop_2, w01, w12, rwz1, List.take_length, Int.toNat_one, tn2, hb6, c0, hlen, hb9]
  repeat with_reducible refine an_ ?_
  refine hκ _ _ ?_; clear hκ hξ ξ κ
  refine sq ?_
  refine sr_ [0, 1, 2, 6, 9, 10, 11, 30] [] [] fun κ ξ hκ hξ => ?_
  try simp +decide only [go_sem, wat_0, wat_1, drop_1, drop_2, w01, w12, rwz1, List.take_length, Int.toNat_one, tn2, hb6, c0, hlen, hb9]
  repeat with_reducible refine an_ ?_
  refine hκ _ _ ?_; clear hκ hξ ξ κ
  refine cd_ (fun c1 => ?_) (fun c1 => ?_)
  ·simp only [go_sem, decide_eq_true_eq, decide_eq_false_iff_not, Bool.and_eq_true, Bool.and_eq_false_iff, Bool.not_eq_true', Bool.not_eq_false'] at c1
   refine sr_ [6, 7, 8] [] [] fun κ ξ hκ hξ => ?_
   try simp +decide only [go_sem, wat_0, wat_1, drop_1, drop_2, w01, w12, rwz1, List.take_length, Int.toNat_one, tn2, hb6, c0, hlen, hb9, c1]
   repeat with_reducible refine an_ ?_
   refine hκ _ _ ?_; clear hκ hξ ξ κ
   refine rt ?_
   refine retL ?_
   simp +decide only [go_sem, resD, resV, wat_0, wat_1, drop_1, drop_2, w01, w12, rwz1, List.take_length, Int.toNat_one, tn2, hb6, c0, hlen, hb9, c1]
   rw [show nm2 (fun a b => (.mk 3 a 0 b [])) (w1 :: w2 :: r) = rdNo from if_pos c1]
   exact DLe.tup ⟨DLe.ag ⟨DLe.refl _, DLe.refl _, DLe.refl _, DLe.refl _, DLe.nil _ _ _, trivial⟩, DLe.nil _ _ _, DLe.refl _, trivial⟩
  ·simp only [go_sem, decide_eq_true_eq, decide_eq_false_iff_not, Bool.and_eq_true, Bool.and_eq_false_iff, Bool.not_eq_true', Bool.not_eq_false'] at c1
   refine sk ?_
   refine sr_ [0, 1, 2, 6, 9, 10, 11, 33] [] [] fun κ ξ hκ hξ => ?_
   try simp +decide only [go_sem, wat_0, wat_1, drop_1, drop_2, w01, w12, rwz1, List.take_length, Int.toNat_one, tn2, hb6, c0, hlen, hb9, c1]
   repeat with_reducible refine an_ ?_
   refine hκ _ _ ?_; clear hκ hξ ξ κ
   refine cd_ (fun c2 => ?_) (fun c2 => ?_)
   ·skip
    refine rr_ [0, 1, 2, 6, 9, 10] [] [] fun κ ξ hκ hξ => ?_
    try simp +decide only [go_sem, wat_0, wat_1, drop_1, drop_2, w01, w12, rwz1, List.take_length, Int.toNat_one, tn2, hb6, c0, hlen, hb9, c1, c2]
    repeat with_reducible refine an_ ?_
    refine hκ _ _ ?_; clear hκ hξ ξ κ
    refine rr_ [0, 1, 2, 6, 9, 10] [] [] fun κ ξ hκ hξ => ?_
    try simp +decide only [go_sem, wat_0, wat_1, drop_1, drop_2, w01, w12, rwz1, List.take_length, Int.toNat_one, tn2, hb6, c0, hlen, hb9, c1, c2]
    repeat with_reducible refine an_ ?_
    refine hκ _ _ ?_; clear hκ hξ ξ κ
    refine rnd ?_
    refine sq ?_
    refine sr_ [0, 1, 2, 6, 9, 10, 21] [] [] fun κ ξ hκ hξ => ?_
    try simp +decide only [go_sem, wat_0, wat_1, drop_1, drop_2, w01, w12, rwz1, List.take_length, Int.toNat_one, tn2, hb6, c0, hlen, hb9, c1, c2]
    repeat with_reducible refine an_ ?_
    refine hκ _ _ ?_; clear hκ hξ ξ κ
    refine cdt (by rfl) ?_
    refine sk ?_
    refine sq ?_
    refine bl ?_
    refine sr_ [0, 1, 2, 6, 9, 10, 11] [] [] fun κ ξ hκ hξ => ?_
    try simp +decide only [go_sem, wat_0, wat_1, drop_1, drop_2, w01, w12, rwz1, List.take_length, Int.toNat_one, tn2, hb6, c0, hlen, hb9, c1, c2]
    repeat with_reducible refine an_ ?_
    refine callF (rnu_w _ (by first | exact hl1 | exact hl2)) ?_
    try simp +decide only [go_sem, wat_0, wat_1, drop_1, drop_2, w01, w12, rwz1, List.take_length, Int.toNat_one, tn2, hb6, c0, hlen, hb9, c1, c2]
    repeat with_reducible refine an_ ?_
    refine hκ _ _ ?_; clear hκ hξ ξ κ
    refine sq ?_
    refine sr_ [0, 1, 2, 6, 9, 10, 11, 30] [] [] fun κ ξ hκ hξ => ?_
    try simp +decide only [go_sem, wat_0, wat_1, drop_1, drop_2, w01, w12, rwz1, List.take_length, Int.toNat_one, tn2, hb6, c0, hlen, hb9, c1, c2]
    repeat with_reducible refine an_ ?_
    refine hκ _ _ ?_; clear hκ hξ ξ κ
    refine cd_ (fun c3 => ?_) (fun c3 => ?_)
    ·simp only [go_sem, decide_eq_true_eq, decide_eq_false_iff_not, Bool.and_eq_true, Bool.and_eq_false_iff, Bool.not_eq_true', Bool.not_eq_false'] at c3
     refine sr_ [6, 7, 8] [] [] fun κ ξ hκ hξ => ?_
     try simp +decide only [go_sem, wat_0, wat_1, drop_1, drop_2, w01, w12, rwz1, List.take_length, Int.toNat_one, tn2, hb6, c0, hlen, hb9, c1, c2, c3]
     repeat with_reducible refine an_ ?_
     refine hκ _ _ ?_; clear hκ hξ ξ κ
     refine rt ?_
     refine retL ?_
     simp +decide only [go_sem, resD, resV, wat_0, wat_1, drop_1, drop_2, w01, w12, rwz1, List.take_length, Int.toNat_one, tn2, hb6, c0, hlen, hb9, c1, c2, c3]
     rw [show nm2 (fun a b => (.mk 3 a 0 b [])) (w1 :: w2 :: r) = rdNo from (if_neg c1).trans (if_pos c3)]
     exact DLe.tup ⟨DLe.ag ⟨DLe.refl _, DLe.refl _, DLe.refl _, DLe.refl _, DLe.nil _ _ _, trivial⟩, DLe.nil _ _ _, DLe.refl _, trivial⟩
    ·simp only [go_sem, decide_eq_true_eq, decide_eq_false_iff_not, Bool.and_eq_true, Bool.and_eq_false_iff, Bool.not_eq_true', Bool.not_eq_false'] at c3
     refine sk ?_
     refine sr_ [0, 1, 2, 6, 9, 10, 11, 33] [] [] fun κ ξ hκ hξ => ?_
     try simp +decide only [go_sem, wat_0, wat_1, drop_1, drop_2, w01, w12, rwz1, List.take_length, Int.toNat_one, tn2, hb6, c0, hlen, hb9, c1, c2, c3]
     repeat with_reducible refine an_ ?_
     refine hκ _ _ ?_; clear hκ hξ ξ κ
     refine cd_ (fun c4 => ?_) (fun c4 => ?_)
     ·cases c4
     ·skip
      refine sr_ [0, 1, 2, 6, 9, 10, 11, 37] [] [] fun κ ξ hκ hξ => ?_
      try simp +decide only [go_sem, wat_0, wat_1, drop_1, drop_2, w01, w12, rwz1, List.take_length, Int.toNat_one, tn2, hb6, c0, hlen, hb9, c1, c2, c3, c4]
      repeat with_reducible refine an_ ?_
      refine hκ _ _ ?_; clear hκ hξ ξ κ
      refine cd_ (fun c5 => ?_) (fun c5 => ?_)
      ·cases c5
      ·skip
       refine rr_ [0, 1, 2, 6, 9, 10] [] [] fun κ ξ hκ hξ => ?_
       try simp +decide only [go_sem, wat_0, wat_1, drop_1, drop_2, w01, w12, rwz1, List.take_length, Int.toNat_one, tn2, hb6, c0, hlen, hb9, c1, c2, c3, c4, c5]
       repeat with_reducible refine an_ ?_
       refine hκ _ _ ?_; clear hκ hξ ξ κ
       refine rr_ [0, 1, 2, 6, 9, 10] [] [] fun κ ξ hκ hξ => ?_
       try simp +decide only [go_sem, wat_0, wat_1, drop_1, drop_2, w01, w12, rwz1, List.take_length, Int.toNat_one, tn2, hb6, c0, hlen, hb9, c1, c2, c3, c4, c5]
       repeat with_reducible refine an_ ?_
       refine hκ _ _ ?_; clear hκ hξ ξ κ
       refine rnd ?_
       refine sq ?_
       refine sr_ [0, 1, 2, 6, 9, 10, 21] [] [] fun κ ξ hκ hξ => ?_
       try simp +decide only [go_sem, wat_0, wat_1, drop_1, drop_2, w01, w12, rwz1, List.take_length, Int.toNat_one, tn2, hb6, c0, hlen, hb9, c1, c2, c3, c4, c5]
       repeat with_reducible refine an_ ?_
       refine hκ _ _ ?_; clear hκ hξ ξ κ
       refine cdf (by rfl) ?_
       refine ex ?_
       refine srd_ [6, 7, 8] [] [] [] fun κ ξ hκ hξ => ?_
       try simp +decide only [go_sem, wat_0, wat_1, drop_1, drop_2, w01, w12, rwz1, List.take_length, Int.toNat_one, tn2, hb6, c0, hlen, hb9, c1, c2, c3, c4, c5]
       repeat with_reducible refine an_ ?_
       refine hκ _ _ ?_; clear hκ hξ ξ κ
       refine rt ?_
       refine retL ?_
       simp +decide only [go_sem, resD, resV, wat_0, wat_1, drop_1, drop_2, w01, w12, rwz1, List.take_length, Int.toNat_one, tn2, hb6, c0, hlen, hb9, c1, c2, c3, c4, c5]
       rw [show nm2 (fun a b => (.mk 3 a 0 b [])) (w1 :: w2 :: r) = ((.mk 3 (numR w1) 0 (numR w2) []), r, true) from (if_neg c1).trans (if_neg c3)]
       exact DLe.tup ⟨DLe.ag ⟨DLe.refl _, DLe.refl _, DLe.refl _, DLe.refl _, DLe.nil _ _ _, trivial⟩, DLe.refl _, DLe.refl _, trivial⟩
   ·cases c2
theorem rnm5 (ws : List W) (hnb : nbW ws) (t : Tok) : PCall Tryz.prog (.func 67) [.sl 1 (ws.map srow) t, .int .i64 5, .int .i64 2] (rdF (nm2 (fun a b => (.mk 5 a 0 b [])) ws)) := by
 refine PCall.le ?_
 refine fn_ Tryz.func67 (by rfl) (by rfl) (rs := [.cell 6 25, .tmp 7, .tmp 8]) (by rfl) (by simp [Tryz.f67]) ?_
 refine sr_ [0, 1, 2, 6] [] [] fun κ ξ hκ hξ => ?_
 try simp +decide only [go_sem, wat_0, wat_1, drop_1, drop_2, w01, w12, rwz1, List.take_length, Int.toNat_one, tn2]
 repeat with_reducible refine an_ ?_
 intro b6 hb6
 try simp +decide only [go_sem, wat_0, wat_1, drop_1, drop_2, w01, w12, rwz1, List.take_length, Int.toNat_one, tn2, hb6]
 repeat with_reducible refine an_ ?_
 refine hκ _ _ ?_; clear hκ hξ ξ κ
 refine sq ?_
 refine sr_ [0, 1, 2, 6, 15] [] [] fun κ ξ hκ hξ => ?_
 try simp +decide only [go_sem, wat_0, wat_1, drop_1, drop_2, w01, w12, rwz1, List.take_length, Int.toNat_one, tn2, hb6]
 repeat with_reducible refine an_ ?_
 refine hκ _ _ ?_; clear hκ hξ ξ κ
 refine cd_ (fun c0 => ?_) (fun c0 => ?_)
 ·simp only [go_sem, decide_eq_true_eq, decide_eq_false_iff_not, Bool.and_eq_true, Bool.and_eq_false_iff, Bool.not_eq_true', Bool.not_eq_false'] at c0
  have e : nm2 (fun a b => (.mk 5 a 0 b [])) ws = rdNo := by
   match ws, c0 with
   | [], _ => rfl
   | [_], _ => rfl
   | _ :: _ :: _, c0 => simp only [List.length_cons] at c0; omega
  refine sr_ [6, 7, 8] [] [] fun κ ξ hκ hξ => ?_
  try simp +decide only [go_sem, wat_0, wat_1, drop_1, drop_2, w01, w12, rwz1, List.take_length, Int.toNat_one, tn2, hb6, c0]
  repeat with_reducible refine an_ ?_
  refine hκ _ _ ?_; clear hκ hξ ξ κ
  refine rt ?_
  refine retL ?_
  simp +decide only [go_sem, resD, resV, wat_0, wat_1, drop_1, drop_2, w01, w12, rwz1, List.take_length, Int.toNat_one, tn2, hb6, c0]
  rw [e]
  exact DLe.tup ⟨DLe.ag ⟨DLe.refl _, DLe.refl _, DLe.refl _, DLe.refl _, DLe.nil _ _ _, trivial⟩, DLe.nil _ _ _, DLe.refl _, trivial⟩
 ·simp only [go_sem, decide_eq_true_eq, decide_eq_false_iff_not, Bool.and_eq_true, Bool.and_eq_false_iff, Bool.not_eq_true', Bool.not_eq_false'] at c0
  obtain ⟨w1, w2, r, rfl⟩ : ∃ w1 w2 r, ws = w1 :: w2 :: r := by
   match ws, c0 with
   | [], c0 => simp at c0
   | [_], c0 => simp at c0
   | a :: b :: r, _ => exact ⟨a, b, r, rfl⟩
  have hl1 := (hnb w1 (by simp)).2
  have hl2 := (hnb w2 (by simp)).2
  have hlen : (0 : Int) < ((r.length + 1 + 1 : Nat) : Int) ∧ (1 : Int) < ((r.length + 1 + 1 : Nat) : Int) ∧ (2 : Int) ≤ ((r.length + 1 + 1 : Nat) : Int) := by omega
  refine sk ?_
  refine sr_ [0, 1, 2, 6, 9] [] [] fun κ ξ hκ hξ => ?_
  try simp +decide only [go_sem, wat_0, wat_1, drop_1, drop_2, w01, w12, rwz1, List.take_length, Int.toNat_one, tn2, hb6, c0, hlen]
  repeat with_reducible refine an_ ?_
  intro b9 hb9
  try simp +decide only [go_sem, wat_0, wat_1, drop_1, drop_2, w01, w12, rwz1, List.take_length, Int.toNat_one, tn2, hb6, c0, hlen, hb9]
  repeat with_reducible refine an_ ?_
  refine hκ _ _ ?_; clear hκ hξ ξ κ
  refine sq ?_
  refine sr_ [0, 1, 2, 6, 9, 10] [] [] fun κ ξ hκ hξ => ?_
  try simp +decide only [go_sem, wat_0, wat_1, drop_1, drop_2, w01, w12, rwz1, List.take_length, Int.toNat_one, tn2, hb6, c0, hlen, hb9]
  repeat with_reducible refine an_ ?_
  refine hκ _ _ ?_; clear hκ hξ ξ κ
  refine bl ?_
  refine lpN 3 ?_
  refine rnd ?_
  refine sq ?_
  refine sr_ [0, 1, 2, 6, 9, 10, 21] [] [] fun κ ξ hκ hξ => ?_
  try simp +decide only [go_sem, wat_0, wat_1, drop_1, drop_2, w01, w12, rwz1, List.take_length, Int.toNat_one, tn2, hb6, c0, hlen, hb9]
  repeat with_reducible refine an_ ?_
  refine hκ _ _ ?_; clear hκ hξ ξ κ
  refine cdt (by rfl) ?_
  refine sk ?_
  refine sq ?_
  refine bl ?_
  refine sr_ [0, 1, 2, 6, 9, 10, 11] [] [] fun κ ξ hκ hξ => ?_
  try simp +decide only [go_sem, wat_0, wat_1, drop_1, drop_2, w01, w12, rwz1, List.take_length, Int.toNat_one, tn2, hb6, c0, hlen, hb9]
  repeat with_reducible refine an_ ?_
  refine callF (rnu_w _ (by first | exact hl1 | exact hl2)) ?_
  try simp +decide only [go_sem, wat_0, wat_1, drop_1, drop_2, w01, w12, rwz1, List.take_length, Int.toNat_one, tn2, hb6, c0, hlen, hb9]
  repeat with_reducible refine an_ ?_
  refine hκ _ _ ?_; clear hκ hξ ξ κ
  refine sq ?_
  refine sr_ [0, 1, 2, 6, 9, 10, 11, 30] [] [] fun κ ξ hκ hξ => ?_
  try simp +decide only [go_sem, wat_0, wat_1, drop_1, drop_2, w01, w12, rwz1, List.take_length, Int.toNat_one, tn2, hb6, c0, hlen, hb9]
  repeat with_reducible refine an_ ?_
  refine hκ _ _ ?_; clear hκ hξ ξ κ
  refine cd_ (fun c1 => ?_) (fun c1 => ?_)
  ·simp only [go_sem, decide_eq_true_eq, decide_eq_false_iff_not, Bool.and_eq_true, Bool.and_eq_false_iff, Bool.not_eq_true', Bool.not_eq_false'] at c1
   refine sr_ [6, 7, 8] [] [] fun κ ξ hκ hξ => ?_
   try simp +decide only [go_sem, wat_0, wat_1, drop_1, drop_2, w01, w12, rwz1, List.take_length, Int.toNat_one, tn2, hb6, c0, hlen, hb9, c1]
   repeat with_reducible refine an_ ?_
   refine hκ _ _ ?_; clear hκ hξ ξ κ
   refine rt ?_
   refine retL ?_
   simp +decide only [go_sem, resD, resV, wat_0, wat_1, drop_1, drop_2, w01, w12, rwz1, List.take_length, Int.toNat_one, tn2, hb6, c0, hlen, hb9, c1]
   rw [show nm2 (fun a b => (.mk 5 a 0 b [])) (w1 :: w2 :: r) = rdNo from if_pos c1]
   exact DLe.tup ⟨DLe.ag ⟨DLe.refl _, DLe.refl _, DLe.refl _, DLe.refl _, DLe.nil _ _ _, trivial⟩, DLe.nil _ _ _, DLe.refl _, trivial⟩
  ·simp only [go_sem, decide_eq_true_eq, decide_eq_false_iff_not, Bool.and_eq_true, Bool.and_eq_false_iff, Bool.not_eq_true', Bool.not_eq_false'] at c1
   refine sk ?_
   refine sr_ [0, 1, 2, 6, 9, 10, 11, 33] [] [] fun κ ξ hκ hξ => ?_
   try simp +decide only [go_sem, wat_0, wat_1, drop_1, drop_2, w01, w12, rwz1, List.take_length, Int.toNat_one, tn2, hb6, c0, hlen, hb9, c1]
   repeat with_reducible refine an_ ?_
   refine hκ _ _ ?_; clear hκ hξ ξ κ
   refine cd_ (fun c2 => ?_) (fun c2 => ?_)
   ·skip
    refine rr_ [0, 1, 2, 6, 9, 10] [] [] fun κ ξ hκ hξ => ?_
    try simp +decide only [go_sem, wat_0, wat_1, drop_1, drop_2, w01, w12, rwz1, List.take_length, Int.toNat_one, tn2, hb6, c0, hlen, hb9, c1, c2]
    repeat with_reducible refine an_ ?_
    refine hκ _ _ ?_; clear hκ hξ ξ κ
    refine rr_ [0, 1, 2, 6, 9, 10] [] [] fun κ ξ hκ hξ => ?_
    try simp +decide only [go_sem, wat_0, wat_1, drop_1, drop_2, w01, w12, rwz1, List.take_length, Int.toNat_one, tn2, hb6, c0, hlen, hb9, c1, c2]
    repeat with_reducible refine an_ ?_
    refine hκ _ _ ?_; clear hκ hξ ξ κ
    refine rnd ?_
    refine sq ?_
    refine sr_ [0, 1, 2, 6, 9, 10, 21] [] [] fun κ ξ hκ hξ => ?_
    try simp +decide only [go_sem, wat_0, wat_1, drop_1, drop_2, w01, w12, rwz1, List.take_length, Int.toNat_one, tn2, hb6, c0, hlen, hb9, c1, c2]
    repeat with_reducible refine an_ ?_
    refine hκ _ _ ?_; clear hκ hξ ξ κ
    refine cdt (by rfl) ?_
    refine sk ?_
    refine sq ?_
    refine bl ?_
    refine sr_ [0, 1, 2, 6, 9, 10, 11] [] [] fun κ ξ hκ hξ => ?_
    try simp +decide only [go_sem, wat_0, wat_1, drop_1, drop_2, w01, w12, rwz1, List.take_length, Int.toNat_one, tn2, hb6, c0, hlen, hb9, c1, c2]
    repeat with_reducible refine an_ ?_
    refine callF (rnu_w _ (by first | exact hl1 | exact hl2)) ?_
    try simp +decide only [go_sem, wat_0, wat_1, drop_1, drop_2, w01, w12, rwz1, List.take_length, Int.toNat_one, tn2, hb6, c0, hlen, hb9, c1, c2]
    repeat with_reducible refine an_ ?_
    refine hκ _ _ ?_; clear hκ hξ ξ κ
    refine sq ?_
    refine sr_ [0, 1, 2, 6, 9, 10, 11, 30] [] [] fun κ ξ hκ hξ => ?_
    try simp +decide only [go_sem, wat_0, wat_1, drop_1, drop_2, w01, w12, rwz1, List.take_length, Int.toNat_one, tn2, hb6, c0, hlen, hb9, c1, c2]
    repeat with_reducible refine an_ ?_
    refine hκ _ _ ?_; clear hκ hξ ξ κ
    refine cd_ (fun c3 => ?_) (fun c3 => ?_)
    ·simp only [go_sem, decide_eq_true_eq, decide_eq_false_iff_not, Bool.and_eq_true, Bool.and_eq_false_iff, Bool.not_eq_true', Bool.not_eq_false'] at c3
     refine sr_ [6, 7, 8] [] [] fun κ ξ hκ hξ => ?_
     try simp +decide only [go_sem, wat_0, wat_1, drop_1, drop_2, w01, w12, rwz1, List.take_length, Int.toNat_one, tn2, hb6, c0, hlen, hb9, c1, c2, c3]
     repeat with_reducible refine an_ ?_
     refine hκ _ _ ?_; clear hκ hξ ξ κ
     refine rt ?_
     refine retL ?_
     simp +decide only [go_sem, resD, resV, wat_0, wat_1, drop_1, drop_2, w01, w12, rwz1, List.take_length, Int.toNat_one, tn2, hb6, c0, hlen, hb9, c1, c2, c3]
     rw [show nm2 (fun a b => (.mk 5 a 0 b [])) (w1 :: w2 :: r) = rdNo from (if_neg c1).trans (if_pos c3)]
     exact DLe.tup ⟨DLe.ag ⟨DLe.refl _, DLe.refl _, DLe.refl _, DLe.refl _, DLe.nil _ _ _, trivial⟩, DLe.nil _ _ _, DLe.refl _, trivial⟩
    ·simp only [go_sem, decide_eq_true_eq, decide_eq_false_iff_not, Bool.and_eq_true, Bool.and_eq_false_iff, Bool.not_eq_true', Bool.not_eq_false'] at c3
     refine sk ?_
     refine sr_ [0, 1, 2, 6, 9, 10, 11, 33] [] [] fun κ ξ hκ hξ => ?_
     try simp +decide only [go_sem, wat_0, wat_1, drop_1, drop_2, w01, w12, rwz1, List.take_length, Int.toNat_one, tn2, hb6, c0, hlen, hb9, c1, c2, c3]
     repeat with_reducible refine an_ ?_
     refine hκ _ _ ?_; clear hκ hξ ξ κ
     refine cd_ (fun c4 => ?_) (fun c4 => ?_)
     ·cases c4
     ·skip
      refine sr_ [0, 1, 2, 6, 9, 10, 11, 37] [] [] fun κ ξ hκ hξ => ?_
      try simp +decide only [go_sem, wat_0, wat_1, drop_1, drop_2, w01, w12, rwz1, List.take_length, Int.toNat_one, tn2, hb6, c0, hlen, hb9, c1, c2, c3, c4]
      repeat with_reducible refine an_ ?_
      refine hκ _ _ ?_; clear hκ hξ ξ κ
      refine cd_ (fun c5 => ?_) (fun c5 => ?_)
      ·cases c5
      ·skip
       refine rr_ [0, 1, 2, 6, 9, 10] [] [] fun κ ξ hκ hξ => ?_
       try simp +decide only [go_sem, wat_0, wat_1, drop_1, drop_2, w01, w12, rwz1, List.take_length, Int.toNat_one, tn2, hb6, c0, hlen, hb9, c1, c2, c3, c4, c5]
       repeat with_reducible refine an_ ?_
       refine hκ _ _ ?_; clear hκ hξ ξ κ
       refine rr_ [0, 1, 2, 6, 9, 10] [] [] fun κ ξ hκ hξ => ?_
       try simp +decide only [go_sem, wat_0, wat_1, drop_1, drop_2, w01, w12, rwz1, List.take_length, Int.toNat_one, tn2, hb6, c0, hlen, hb9, c1, c2, c3, c4, c5]
       repeat with_reducible refine an_ ?_
       refine hκ _ _ ?_; clear hκ hξ ξ κ
       refine rnd ?_
       refine sq ?_
       refine sr_ [0, 1, 2, 6, 9, 10, 21] [] [] fun κ ξ hκ hξ => ?_
       try simp +decide only [go_sem, wat_0, wat_1, drop_1, drop_2, w01, w12, rwz1, List.take_length, Int.toNat_one, tn2, hb6, c0, hlen, hb9, c1, c2, c3, c4, c5]
       repeat with_reducible refine an_ ?_
       refine hκ _ _ ?_; clear hκ hξ ξ κ
       refine cdf (by rfl) ?_
       refine ex ?_
       refine srd_ [6, 7, 8] [] [] [] fun κ ξ hκ hξ => ?_
       try simp +decide only [go_sem, wat_0, wat_1, drop_1, drop_2, w01, w12, rwz1, List.take_length, Int.toNat_one, tn2, hb6, c0, hlen, hb9, c1, c2, c3, c4, c5]
       repeat with_reducible refine an_ ?_
       refine hκ _ _ ?_; clear hκ hξ ξ κ
       refine rt ?_
       refine retL ?_
       simp +decide only [go_sem, resD, resV, wat_0, wat_1, drop_1, drop_2, w01, w12, rwz1, List.take_length, Int.toNat_one, tn2, hb6, c0, hlen, hb9, c1, c2, c3, c4, c5]
       rw [show nm2 (fun a b => (.mk 5 a 0 b [])) (w1 :: w2 :: r) = ((.mk 5 (numR w1) 0 (numR w2) []), r, true) from (if_neg c1).trans (if_neg c3)]
       exact DLe.tup ⟨DLe.ag ⟨DLe.refl _, DLe.refl _, DLe.refl _, DLe.refl _, DLe.nil _ _ _, trivial⟩, DLe.refl _, DLe.refl _, trivial⟩
   ·cases c2
end Go.Proofs.YtfjnohmdilmfhaaGreatDoor
/- Claim: the reference's read. Printed by a tool of our own. -/
namespace Go.Proofs.YtfjnohmdilmfhaaGreatDoor
open Go Go.RowKit
set_option linter.unusedSimpArgs false
set_option linter.unusedVariables false
set_option maxHeartbeats 4000000
set_option maxRecDepth 100000
def okR (x : Option (Cl × List W)) (y : Cl × List W × Bool) : Prop := match x with
 | some (c, r) => y = (c, r, true)
 | none => y.2.2 = false
theorem numR_L (w : W) (r : List W) : numL (w :: r) = if numR w < 0 then none else some (numR w, r) := by
 rw [numL]
 by_cases h : numB w = true
 ·have h2 := h
  unfold numB at h2
  simp only [Bool.and_eq_true, decide_eq_true_eq] at h2
  have := numV_lt h2.1.2 h2.1.1.2
  rw [if_pos h, show numR w = numV w from if_pos h, if_neg (by omega)]
 ·rw [if_neg h, show numR w = -1 from if_neg h, if_pos (by decide)]
theorem nm1_ok (ws : List W) : okR (match numL ws with
    | some (a, r) => some (.mk 1 a 0 0 [], r)
    | none => none) (nm1 ws) := by
 cases ws with
 | nil => rfl
 | cons w r =>
  rw [numR_L]
  simp only [nm1]
  by_cases h : numR w < 0
  ·rw [if_pos h, if_pos h]; rfl
  ·rw [if_neg h, if_neg h]; rfl
theorem nm2_ok (F : Int → Int → Cl) (ws : List W) : okR (match numL ws with
    | some (a, r) => (match numL r with
      | some (b, r2) => some (F a b, r2)
      | none => none)
    | none => none) (nm2 F ws) := by
 match ws with
 | [] => rfl
 | [w] =>
  rw [numR_L]
  by_cases h : numR w < 0
  ·rw [if_pos h]; rfl
  ·rw [if_neg h]; rfl
 | w :: v :: r =>
  rw [numR_L]
  simp only [nm2]
  by_cases h : numR w < 0
  ·rw [if_pos h, if_pos h]; rfl
  ·rw [if_neg h, if_neg h]
   simp only [numR_L]
   by_cases h2 : numR v < 0
   ·rw [if_pos h2, if_pos h2]; rfl
   ·rw [if_neg h2, if_neg h2]; rfl
theorem callR0 {P : Program} {σ : Store} {g : Nat} {xs : List D} {α : Type} {F : α → D} {ok : α → Prop} {K X : D → Store → Prop} (h : RCall P (.func g) xs [] F (fun _ => []) ok) (hk : ∀ y, ok y → K (F y) σ) : CallK P (.fn (.func g) [] []) xs K X σ := by
 have h' := h.frameL σ
 rw [List.append_nil] at h'
 refine callR (fs := []) (cs := []) (by simpa using h') fun y hy => ?_
 exact hk y hy
/-- The kids' box. -/
def kN (rows : List (List D)) : Option (Nat × Nat) → D
 | none => .sl 0 [] .nil
 | some (b, c) => .sl 5 rows (.own b c)
attribute [local go_sem] List.length_map rowAt_n nrow rowAt_t trow rowAt_i irow
attribute [local go_sem] rowAt_c rowAt_sn rowAt_bx snrow bxrow
attribute [local go_sem] rowAt_s srow rwz List.append_eq
theorem rd_s (f : Nat) (hR : ∀ (ws : List W) (t : Tok) (lv : Int), 2 * ws.length + 2 ≤ f → nbW ws → ws.length ≤ 100000 → RCall Tryz.prog (.func 33) [.sl 1 (ws.map srow) t, .int .i64 lv] [] rdF (fun _ => []) (okR (pcl f ws))) (hG : ∀ (ws : List W) (t : Tok) (lv : Int), 2 * ws.length + 3 ≤ f → nbW ws → ws.length ≤ 100000 → RCall Tryz.prog (.func 68) [.sl 1 (ws.map srow) t, .int .i64 lv] [] rdF (fun _ => []) (okR (pgp f ws))) (ws : List W) (t : Tok) (lv : Int) (hl : 2 * ws.length + 2 ≤ f + 1) (hnb : nbW ws) (hw : ws.length ≤ 100000) : RCall Tryz.prog (.func 33) [.sl 1 (ws.map srow) t, .int .i64 lv] [] rdF (fun _ => []) (okR (pcl (f + 1) ws)) := by
 refine RCall.le ?_
 refine fn_ Tryz.func33 (by rfl) (by rfl) (rs := [.cell 4 25, .tmp 5, .tmp 6]) (by rfl) (by simp [Tryz.f33]) ?_
 refine sr_ [0, 1, 4] [] [] fun κ ξ hκ hξ => ?_
 try simp +decide only [go_sem, wat_0, drop_1, List.take_length, Int.toNat_one, rdF]
 repeat with_reducible refine an_ ?_
 intro b4 hb4
 try simp +decide only [go_sem, wat_0, drop_1, List.take_length, Int.toNat_one, rdF, hb4]
 repeat with_reducible refine an_ ?_
 refine hκ _ _ ?_; clear hκ hξ ξ κ
 refine sq ?_
 refine sr_ [0, 1, 4, 12] [] [] fun κ ξ hκ hξ => ?_
 try simp +decide only [go_sem, wat_0, drop_1, List.take_length, Int.toNat_one, rdF, hb4]
 repeat with_reducible refine an_ ?_
 refine hκ _ _ ?_; clear hκ hξ ξ κ
 refine cd_ (fun c0 => ?_) (fun c0 => ?_)
 ·simp only [go_sem, decide_eq_true_eq, decide_eq_false_iff_not, Bool.and_eq_true, Bool.and_eq_false_iff, Bool.not_eq_true', Bool.not_eq_false'] at c0
  obtain rfl : ws = [] := List.eq_nil_of_length_eq_zero (by omega)
  refine sr_ [4, 5, 6] [] [] fun κ ξ hκ hξ => ?_
  try simp +decide only [go_sem, wat_0, drop_1, List.take_length, Int.toNat_one, rdF, hb4, c0]
  repeat with_reducible refine an_ ?_
  refine hκ _ _ ?_; clear hκ hξ ξ κ
  refine rt ?_
  refine retRL rdNo (List.nil_sublist _) (rfl) ⟨by simp +decide only [go_sem, resD, resV], ?_⟩
  simp +decide only [go_sem, resD, resV]
  exact DLe.tup ⟨DLe.ag ⟨DLe.refl _, DLe.refl _, DLe.refl _, DLe.refl _, DLe.nil _ _ _, trivial⟩, DLe.nil _ _ _, DLe.refl _, trivial⟩
 ·simp only [go_sem, decide_eq_true_eq, decide_eq_false_iff_not, Bool.and_eq_true, Bool.and_eq_false_iff, Bool.not_eq_true', Bool.not_eq_false'] at c0
  obtain ⟨w, r, rfl⟩ : ∃ w r, ws = w :: r := by cases ws with
   | nil => simp at c0
   | cons w r => exact ⟨w, r, rfl⟩
  have hnr := hnb.tl
  simp only [List.length_cons] at hl hw
  have hlen : (0 : Int) < ((r.length + 1 : Nat) : Int) ∧ (1 : Int) ≤ ((r.length + 1 : Nat) : Int) := by omega
  refine sk ?_
  refine sq ?_
  refine sr_ [0, 1, 4, 16] [] [] fun κ ξ hκ hξ => ?_
  try simp +decide only [go_sem, wat_0, drop_1, List.take_length, Int.toNat_one, rdF, hb4, c0, hlen]
  repeat with_reducible refine an_ ?_
  refine hκ _ _ ?_; clear hκ hξ ξ κ
  refine bl ?_
  refine sr_ [0, 1, 4, 16, 17] [] [] fun κ ξ hκ hξ => ?_
  try simp +decide only [go_sem, wat_0, drop_1, List.take_length, Int.toNat_one, rdF, hb4, c0, hlen]
  repeat with_reducible refine an_ ?_
  refine hκ _ _ ?_; clear hκ hξ ξ κ
  refine cd_ (fun c1 => ?_) (fun c1 => ?_)
  ·simp only [go_sem, decide_eq_true_eq, decide_eq_false_iff_not, Bool.and_eq_true, Bool.and_eq_false_iff, Bool.not_eq_true', Bool.not_eq_false'] at c1
   refine sr_ [4, 5, 6] [] [] fun κ ξ hκ hξ => ?_
   try simp +decide only [go_sem, wat_0, drop_1, List.take_length, Int.toNat_one, rdF, hb4, c0, hlen, c1]
   repeat with_reducible refine an_ ?_
   refine callF (rnm1 r hnr .no) ?_
   try simp +decide only [go_sem, wat_0, drop_1, List.take_length, Int.toNat_one, rdF, hb4, c0, hlen, c1]
   repeat with_reducible refine an_ ?_
   refine hκ _ _ ?_; clear hκ hξ ξ κ
   refine rt ?_
   refine retRL (nm1 r) (List.nil_sublist _) (by rw [pcl, if_pos c1]; exact nm1_ok _) ⟨by simp +decide only [go_sem, resD, resV], ?_⟩
   simp +decide only [go_sem, resD, resV]
   exact DLe.refl _
  ·simp only [go_sem, decide_eq_true_eq, decide_eq_false_iff_not, Bool.and_eq_true, Bool.and_eq_false_iff, Bool.not_eq_true', Bool.not_eq_false'] at c1
   refine sr_ [0, 1, 4, 16, 25] [] [] fun κ ξ hκ hξ => ?_
   try simp +decide only [go_sem, wat_0, drop_1, List.take_length, Int.toNat_one, rdF, hb4, c0, hlen, c1]
   repeat with_reducible refine an_ ?_
   refine hκ _ _ ?_; clear hκ hξ ξ κ
   refine cd_ (fun c2 => ?_) (fun c2 => ?_)
   ·simp only [go_sem, decide_eq_true_eq, decide_eq_false_iff_not, Bool.and_eq_true, Bool.and_eq_false_iff, Bool.not_eq_true', Bool.not_eq_false'] at c2
    refine sr_ [4, 5, 6] [] [] fun κ ξ hκ hξ => ?_
    try simp +decide only [go_sem, wat_0, drop_1, List.take_length, Int.toNat_one, rdF, hb4, c0, hlen, c1, c2]
    repeat with_reducible refine an_ ?_
    refine callF (rnm2 r hnr .no) ?_
    try simp +decide only [go_sem, wat_0, drop_1, List.take_length, Int.toNat_one, rdF, hb4, c0, hlen, c1, c2]
    repeat with_reducible refine an_ ?_
    refine hκ _ _ ?_; clear hκ hξ ξ κ
    refine rt ?_
    refine retRL (nm2 (fun a b => .mk 2 a b 0 []) r) (List.nil_sublist _) (by rw [pcl, if_neg c1, if_pos c2]; exact nm2_ok _ _) ⟨by simp +decide only [go_sem, resD, resV], ?_⟩
    simp +decide only [go_sem, resD, resV]
    exact DLe.refl _
   ·simp only [go_sem, decide_eq_true_eq, decide_eq_false_iff_not, Bool.and_eq_true, Bool.and_eq_false_iff, Bool.not_eq_true', Bool.not_eq_false'] at c2
    refine sr_ [0, 1, 4, 16, 33] [] [] fun κ ξ hκ hξ => ?_
    try simp +decide only [go_sem, wat_0, drop_1, List.take_length, Int.toNat_one, rdF, hb4, c0, hlen, c1, c2]
    repeat with_reducible refine an_ ?_
    refine hκ _ _ ?_; clear hκ hξ ξ κ
    refine cd_ (fun c3 => ?_) (fun c3 => ?_)
    ·simp only [go_sem, decide_eq_true_eq, decide_eq_false_iff_not, Bool.and_eq_true, Bool.and_eq_false_iff, Bool.not_eq_true', Bool.not_eq_false'] at c3
     refine sr_ [4, 5, 6] [] [] fun κ ξ hκ hξ => ?_
     try simp +decide only [go_sem, wat_0, drop_1, List.take_length, Int.toNat_one, rdF, hb4, c0, hlen, c1, c2, c3]
     repeat with_reducible refine an_ ?_
     refine callF (rnm3 r hnr .no) ?_
     try simp +decide only [go_sem, wat_0, drop_1, List.take_length, Int.toNat_one, rdF, hb4, c0, hlen, c1, c2, c3]
     repeat with_reducible refine an_ ?_
     refine hκ _ _ ?_; clear hκ hξ ξ κ
     refine rt ?_
     refine retRL (nm2 (fun a b => .mk 3 a 0 b []) r) (List.nil_sublist _) (by rw [pcl, if_neg c1, if_neg c2, if_pos c3]; exact nm2_ok _ _) ⟨by simp +decide only [go_sem, resD, resV], ?_⟩
     simp +decide only [go_sem, resD, resV]
     exact DLe.refl _
    ·simp only [go_sem, decide_eq_true_eq, decide_eq_false_iff_not, Bool.and_eq_true, Bool.and_eq_false_iff, Bool.not_eq_true', Bool.not_eq_false'] at c3
     refine sr_ [0, 1, 4, 16, 41] [] [] fun κ ξ hκ hξ => ?_
     try simp +decide only [go_sem, wat_0, drop_1, List.take_length, Int.toNat_one, rdF, hb4, c0, hlen, c1, c2, c3]
     repeat with_reducible refine an_ ?_
     refine hκ _ _ ?_; clear hκ hξ ξ κ
     refine cd_ (fun c4 => ?_) (fun c4 => ?_)
     ·simp only [go_sem, decide_eq_true_eq, decide_eq_false_iff_not, Bool.and_eq_true, Bool.and_eq_false_iff, Bool.not_eq_true', Bool.not_eq_false'] at c4
      refine sr_ [4, 5, 6] [] [] fun κ ξ hκ hξ => ?_
      try simp +decide only [go_sem, wat_0, drop_1, List.take_length, Int.toNat_one, rdF, hb4, c0, hlen, c1, c2, c3, c4]
      repeat with_reducible refine an_ ?_
      refine callF (rnm5 r hnr .no) ?_
      try simp +decide only [go_sem, wat_0, drop_1, List.take_length, Int.toNat_one, rdF, hb4, c0, hlen, c1, c2, c3, c4]
      repeat with_reducible refine an_ ?_
      refine hκ _ _ ?_; clear hκ hξ ξ κ
      refine rt ?_
      refine retRL (nm2 (fun a b => .mk 5 a 0 b []) r) (List.nil_sublist _) (by rw [pcl, if_neg c1, if_neg c2, if_neg c3, if_pos c4]; exact nm2_ok _ _) ⟨by simp +decide only [go_sem, resD, resV], ?_⟩
      simp +decide only [go_sem, resD, resV]
      exact DLe.refl _
     ·simp only [go_sem, decide_eq_true_eq, decide_eq_false_iff_not, Bool.and_eq_true, Bool.and_eq_false_iff, Bool.not_eq_true', Bool.not_eq_false'] at c4
      refine sr_ [0, 1, 4, 16, 49] [] [] fun κ ξ hκ hξ => ?_
      try simp +decide only [go_sem, wat_0, drop_1, List.take_length, Int.toNat_one, rdF, hb4, c0, hlen, c1, c2, c3, c4]
      repeat with_reducible refine an_ ?_
      refine hκ _ _ ?_; clear hκ hξ ξ κ
      refine cd_ (fun c5 => ?_) (fun c5 => ?_)
      ·simp only [go_sem, decide_eq_true_eq, decide_eq_false_iff_not, Bool.and_eq_true, Bool.and_eq_false_iff, Bool.not_eq_true', Bool.not_eq_false'] at c5
       refine srd_ [4, 5, 6] [] [] [] fun κ ξ hκ hξ => ?_
       try simp +decide only [go_sem, wat_0, drop_1, List.take_length, Int.toNat_one, rdF, hb4, c0, hlen, c1, c2, c3, c4, c5]
       repeat with_reducible refine an_ ?_
       refine hκ _ _ ?_; clear hκ hξ ξ κ
       refine rt ?_
       refine retRL (.mk 4 0 0 0 [], r, true) (List.nil_sublist _) (by rw [pcl, if_neg c1, if_neg c2, if_neg c3, if_neg c4, if_pos c5]; rfl) ⟨by simp +decide only [go_sem, resD, resV], ?_⟩
       simp +decide only [go_sem, resD, resV]
       exact DLe.tup ⟨DLe.ag ⟨DLe.refl _, DLe.refl _, DLe.refl _, DLe.refl _, DLe.nil _ _ _, trivial⟩, DLe.refl _, DLe.refl _, trivial⟩
      ·simp only [go_sem, decide_eq_true_eq, decide_eq_false_iff_not, Bool.and_eq_true, Bool.and_eq_false_iff, Bool.not_eq_true', Bool.not_eq_false'] at c5
       refine sr_ [0, 1, 4, 16, 54] [] [] fun κ ξ hκ hξ => ?_
       try simp +decide only [go_sem, wat_0, drop_1, List.take_length, Int.toNat_one, rdF, hb4, c0, hlen, c1, c2, c3, c4, c5]
       repeat with_reducible refine an_ ?_
       refine hκ _ _ ?_; clear hκ hξ ξ κ
       refine cd_ (fun c6 => ?_) (fun c6 => ?_)
       ·simp only [go_sem, decide_eq_true_eq, decide_eq_false_iff_not, Bool.and_eq_true, Bool.and_eq_false_iff, Bool.not_eq_true', Bool.not_eq_false'] at c6
        refine sr_ [4, 5, 6] [] [] fun κ ξ hκ hξ => ?_
        try simp +decide only [go_sem, wat_0, drop_1, List.take_length, Int.toNat_one, rdF, hb4, c0, hlen, c1, c2, c3, c4, c5, c6]
        repeat with_reducible refine an_ ?_
        refine callR0 (hG r .no _ (by omega) hnr (by omega)) fun y hy => ?_
        try simp +decide only [go_sem, wat_0, drop_1, List.take_length, Int.toNat_one, rdF, hb4, c0, hlen, c1, c2, c3, c4, c5, c6]
        repeat with_reducible refine an_ ?_
        refine hκ _ _ ?_; clear hκ hξ ξ κ
        refine rt ?_
        refine retRL y (List.nil_sublist _) (by rw [pcl, if_neg c1, if_neg c2, if_neg c3, if_neg c4, if_neg c5, if_neg (by rw [c6]; decide), if_pos c6]; exact hy) ⟨by simp +decide only [go_sem, resD, resV], ?_⟩
        simp +decide only [go_sem, resD, resV]
        exact DLe.refl _
       ·simp only [go_sem, decide_eq_true_eq, decide_eq_false_iff_not, Bool.and_eq_true, Bool.and_eq_false_iff, Bool.not_eq_true', Bool.not_eq_false'] at c6
        refine sr_ [0, 1, 4, 63] [] [] fun κ ξ hκ hξ => ?_
        try simp +decide only [go_sem, wat_0, drop_1, List.take_length, Int.toNat_one, rdF, hb4, c0, hlen, c1, c2, c3, c4, c5, c6]
        repeat with_reducible refine an_ ?_
        refine hκ _ _ ?_; clear hκ hξ ξ κ
        refine cd_ (fun c7 => ?_) (fun c7 => ?_)
        ·simp only [go_sem, decide_eq_true_eq, decide_eq_false_iff_not, Bool.and_eq_true, Bool.and_eq_false_iff, Bool.not_eq_true', Bool.not_eq_false'] at c7
         refine srz_ [(7, [])] [4, 7, 8, 9] [] [] fun κ ξ hκ hξ => ?_
         try simp +decide only [go_sem, wat_0, drop_1, List.take_length, Int.toNat_one, rdF, hb4, c0, hlen, c1, c2, c3, c4, c5, c6, c7]
         repeat with_reducible refine an_ ?_
         refine callR0 (hR r .no _ (by omega) hnr (by omega)) fun y hy => ?_
         try simp +decide only [go_sem, wat_0, drop_1, List.take_length, Int.toNat_one, rdF, hb4, c0, hlen, c1, c2, c3, c4, c5, c6, c7]
         repeat with_reducible refine an_ ?_
         intro b7 hb7
         try simp +decide only [go_sem, wat_0, drop_1, List.take_length, Int.toNat_one, rdF, hb4, c0, hlen, c1, c2, c3, c4, c5, c6, c7, hb7]
         repeat with_reducible refine an_ ?_
         refine hκ _ _ ?_; clear hκ hξ ξ κ
         refine sr_ [4, 5, 6] [] [] fun κ ξ hκ hξ => ?_
         try simp +decide only [go_sem, wat_0, drop_1, List.take_length, Int.toNat_one, rdF, hb4, c0, hlen, c1, c2, c3, c4, c5, c6, c7, hb7]
         repeat with_reducible refine an_ ?_
         refine hκ _ _ ?_; clear hκ hξ ξ κ
         refine rt ?_
         refine retRL (.mk 8 0 0 0 [y.1], y.2.1, y.2.2) (List.nil_sublist _) (by
             rw [pcl, if_neg c1, if_neg c2, if_neg c3, if_neg c4, if_neg c5, if_pos c7]
             cases hp : pcl f r with
             | none => rw [hp] at hy; exact hy
             | some x => obtain ⟨c, r1⟩ := x; rw [hp] at hy; cases (show y = (c, r1, true) from hy); rfl) ⟨by simp +decide only [go_sem, resD, resV], ?_⟩
         simp +decide only [go_sem, resD, resV]
         simp only [rdF, Cl.op, Cl.a, Cl.b, Cl.n, Cl.kids, List.map_cons, List.map_nil, crow_eq]
         exact DLe.tup ⟨DLe.ag ⟨DLe.refl _, DLe.refl _, DLe.refl _, DLe.refl _, DLe.tok _ _ _, trivial⟩, DLe.refl _, DLe.refl _, trivial⟩
        ·simp only [go_sem, decide_eq_true_eq, decide_eq_false_iff_not, Bool.and_eq_true, Bool.and_eq_false_iff, Bool.not_eq_true', Bool.not_eq_false'] at c7
         refine sk ?_
         refine sr_ [4, 5, 6] [] [] fun κ ξ hκ hξ => ?_
         try simp +decide only [go_sem, wat_0, drop_1, List.take_length, Int.toNat_one, rdF, hb4, c0, hlen, c1, c2, c3, c4, c5, c6, c7]
         repeat with_reducible refine an_ ?_
         refine hκ _ _ ?_; clear hκ hξ ξ κ
         refine rt ?_
         refine retRL rdNo (List.nil_sublist _) (by rw [pcl, if_neg c1, if_neg c2, if_neg c3, if_neg c4, if_neg c5, if_neg c7, if_neg c6]; rfl) ⟨by simp +decide only [go_sem, resD, resV], ?_⟩
         simp +decide only [go_sem, resD, resV]
         exact DLe.tup ⟨DLe.ag ⟨DLe.refl _, DLe.refl _, DLe.refl _, DLe.refl _, DLe.nil _ _ _, trivial⟩, DLe.nil _ _ _, DLe.refl _, trivial⟩
end Go.Proofs.YtfjnohmdilmfhaaGreatDoor
/- Claim: Print, Decimal. Printed by a tool of our own. -/
namespace Go.Proofs.YtfjnohmdilmfhaaGreatDoor
open Go Go.RowKit
set_option linter.unusedSimpArgs false
set_option linter.unusedVariables false
set_option maxHeartbeats 4000000
set_option maxRecDepth 100000
open Go.Lib
theorem src_w (e : Cl) (hN : clN e = true) (hS : clS e ≤ 1000) : PCall Tryz.prog (.func 35) [.ag [.int .i64 e.op, .int .i64 e.a, .int .i64 e.b, .int .i64 e.n, .sl 5 (e.kids.map crow) .no]] (.str (prt e)) := by
 suffices h : ∀ n (e : Cl), clS e ≤ n → clN e = true → clS e ≤ 1000 → PCall Tryz.prog (.func 35) [.ag [.int .i64 e.op, .int .i64 e.a, .int .i64 e.b, .int .i64 e.n, .sl 5 (e.kids.map crow) .no]] (.str (prt e)) from h _ e (Nat.le_refl _) hN hS
 intro n
 induction n with
 | zero => intro e he; have := clS_pos e; omega
 | succ n ih => exact fun e he hN hS => src_s e hN hS fun k hk hkN => ih k (by omega) hkN (by omega)
theorem clB_N {e : Cl} (h : clB e = true) : clN e = true ∧ clS e ≤ 100 := by
 unfold clB at h
 rw [Bool.and_eq_true, decide_eq_true_eq] at h
 exact ⟨h.1, h.2.2⟩
def prtP (e : Cl) : W := if clB e = true then prt e else []
def prtE (e : Cl) : Int := if clB e = true then 0 else 1
theorem icl_snoc (sep x : W) : ∀ l : List W, l ≠ [] → join (l ++ [x]) sep = join l sep ++ sep ++ x
 | [], h => absurd rfl h
 | [y], _ => by unfold join; simp [List.intercalate, List.intersperse]
 | y :: z :: l, _ => by
  have ih := icl_snoc sep x (z :: l) (by simp)
  unfold join at ih ⊢
  rw [List.cons_append, List.cons_append, List.intercalate_cons_cons, List.intercalate_cons_cons, ← List.cons_append, ih]
  simp only [List.append_assoc]
theorem sum_len : ∀ l : List Cl, (∀ i, i < l.length → clN (cat l i) = true) → ((l.map prt).map List.length).sum + 8 * l.length ≤ 64 * clSs l
 | [], _ => by simp [clSs]
 | x :: l, hh => by
  have i1 := prt_len _ x (Nat.le_refl _) (hh 0 (by simp))
  have i2 := sum_len l fun i hi => hh (i + 1) (by simp only [List.length_cons]; omega)
  simp only [List.map_cons, List.sum_cons, List.length_cons, clSs]
  omega
theorem itk_len {e : Cl} (hN : clN e = true) {sep : W} (hs : sep.length ≤ 5) (i : Nat) : (join ((e.kids.take i).map prt) sep).length ≤ 64 * clS e := by
 have h1 := icl sep ((e.kids.take i).map prt)
 have h2 := sum_len (e.kids.take i) fun j hj => by
  rw [List.length_take] at hj
  have : cat (e.kids.take i) j = cat e.kids j := by
   unfold cat
   rw [List.getD_eq_getElem?_getD, List.getD_eq_getElem?_getD, List.getElem?_take, if_pos (by omega)]
  rw [this]
  exact clN_kid hN (by omega)
 have h3 := clSs_le e.kids i
 have h4 := clS_eq e
 unfold join
 rw [List.length_map] at h1
 have h5 : sep.length * (e.kids.take i).length ≤ 5 * (e.kids.take i).length := Nat.mul_le_mul_right _ hs
 omega
/-- Decimals, as the loop finds them. -/
def ddR (r : Nat) : W := if r = 0 then [] else decDigits r
theorem ddR_step {r : Nat} {out : W} (hr : r ≠ 0) : ddR r ++ out = ddR (r / 10) ++ (UInt8.ofNat (48 + r % 10) :: out) := by
 unfold ddR
 rw [if_neg hr, dd_step hr]
theorem itoa_nat (n : Int) (h : 0 ≤ n) : itoa n = decDigits n.toNat := by unfold itoa; rw [if_neg (by omega)]
attribute [local go_sem] List.length_map rowAt_n nrow rowAt_t trow rowAt_i irow
attribute [local go_sem] rowAt_c rowAt_sn rowAt_bx snrow bxrow
attribute [local go_sem] rowAt_s srow rwz List.append_eq
theorem pri_w (e : Cl) : PCall Tryz.prog (.func 19) [.ag [.int .i64 e.op, .int .i64 e.a, .int .i64 e.b, .int .i64 e.n, .sl 5 (e.kids.map crow) .no]] (.tup [.str (prtP e), .int .i64 (prtE e)]) := by
 refine PCall.le ?_
 refine fn_ Tryz.func19 (by rfl) (by rfl) (rs := [.tmp 2, .tmp 3]) (by rfl) (by simp [Tryz.f19]) ?_
 refine sr_ [1] [1] [] fun κ ξ hκ hξ => ?_
 try simp +decide only [go_sem]
 repeat with_reducible refine an_ ?_
 refine hκ _ _ ?_; clear hκ hξ ξ κ
 refine sq ?_
 refine sr_ [1, 6] [] [] fun κ ξ hκ hξ => ?_
 try simp +decide only [go_sem]
 repeat with_reducible refine an_ ?_
 refine callF (clv_w _) ?_
 try simp +decide only [go_sem]
 repeat with_reducible refine an_ ?_
 refine hκ _ _ ?_; clear hκ hξ ξ κ
 refine cd_ (fun c0 => ?_) (fun c0 => ?_)
 ·simp only [go_sem, decide_eq_true_eq, decide_eq_false_iff_not, Bool.and_eq_true, Bool.and_eq_false_iff, Bool.not_eq_true', Bool.not_eq_false'] at c0
  refine sr_ [2, 3] [] [] fun κ ξ hκ hξ => ?_
  try simp +decide only [go_sem, c0]
  repeat with_reducible refine an_ ?_
  refine hκ _ _ ?_; clear hκ hξ ξ κ
  refine rt ?_
  refine retL ?_
  simp +decide only [go_sem, resD, resV, c0]
  rw [show prtP e = [] from if_neg (by rw [c0]; simp), show prtE e = 1 from if_neg (by rw [c0]; simp)]
  exact DLe.refl _
 ·simp only [go_sem, decide_eq_true_eq, decide_eq_false_iff_not, Bool.and_eq_true, Bool.and_eq_false_iff, Bool.not_eq_true', Bool.not_eq_false'] at c0
  obtain ⟨hN, hS⟩ := clB_N c0
  refine sk ?_
  refine sr_ [2, 3] [] [] fun κ ξ hκ hξ => ?_
  try simp +decide only [go_sem, c0]
  repeat with_reducible refine an_ ?_
  refine callF (src_w e hN (by omega)) ?_
  try simp +decide only [go_sem, c0]
  repeat with_reducible refine an_ ?_
  refine hκ _ _ ?_; clear hκ hξ ξ κ
  refine rt ?_
  refine retL ?_
  simp +decide only [go_sem, resD, resV, c0]
  rw [show prtP e = prt e from if_pos c0, show prtE e = 0 from if_pos c0]
  exact DLe.refl _
theorem dec_w (n : Nat) (hn : n ≤ 1000000000000) : PCall Tryz.prog (.func 71) [.int .i64 n] (.str (itoa n)) := by
 have hdl := decD_len 12 n (by omega)
 have hit : itoa n = decDigits n := itoa_nonneg n
 refine PCall.le ?_
 refine fn_ Tryz.func71 (by rfl) (by rfl) (rs := [.tmp 2]) (by rfl) (by simp [Tryz.f71]) ?_
 refine sr_ [0] [] [] fun κ ξ hκ hξ => ?_
 try simp +decide only [go_sem]
 repeat with_reducible refine an_ ?_
 refine hκ _ _ ?_; clear hκ hξ ξ κ
 refine sq ?_
 refine sr_ [0, 7] [] [] fun κ ξ hκ hξ => ?_
 try simp +decide only [go_sem]
 repeat with_reducible refine an_ ?_
 refine hκ _ _ ?_; clear hκ hξ ξ κ
 refine cd_ (fun c0 => ?_) (fun c0 => ?_)
 ·simp only [go_sem, decide_eq_true_eq, decide_eq_false_iff_not, Bool.and_eq_true, Bool.and_eq_false_iff, Bool.not_eq_true', Bool.not_eq_false'] at c0
  refine sr_ [2] [] [] fun κ ξ hκ hξ => ?_
  try simp +decide only [go_sem, c0]
  repeat with_reducible refine an_ ?_
  refine hκ _ _ ?_; clear hκ hξ ξ κ
  refine rt ?_
  refine retL ?_
  simp +decide only [go_sem, resD, resV, c0]
  have h0 : itoa (0 : Int) = [48] := by rw [itoa_nat 0 (Int.le_refl _)]; exact decDigits_one (i := 0) (by decide)
  rw [h0]
  exact DLe.refl _
 ·simp only [go_sem, decide_eq_true_eq, decide_eq_false_iff_not, Bool.and_eq_true, Bool.and_eq_false_iff, Bool.not_eq_true', Bool.not_eq_false'] at c0
  refine sk ?_
  refine sr_ [0, 3] [] [] fun κ ξ hκ hξ => ?_
  try simp +decide only [go_sem, c0]
  repeat with_reducible refine an_ ?_
  refine hκ _ _ ?_; clear hκ hξ ξ κ
  refine sr_ [0, 3, 4] [] [] fun κ ξ hκ hξ => ?_
  try simp +decide only [go_sem, c0]
  repeat with_reducible refine an_ ?_
  refine hκ _ _ ?_; clear hκ hξ ξ κ
  refine sq ?_
  refine bl ?_
  refine lp (α := Nat × W) (fun y => mk [(0, .int .i64 n), (3, .str y.2), (4, .int .i64 y.1)]) (fun _ => []) (fun y => ddR n = ddR y.1 ++ y.2 ∧ y.1 ≤ n ∧ y.2.length ≤ 13) (fun y => y.1) (n, []) ⟨⟨by simp, by simp, by simp⟩, EnvLe.of_eq rfl, .refl _⟩ ?_
  rintro ⟨r, out⟩ ⟨hr, hrn, hol⟩
  simp only at hr hrn hol ⊢
  refine sq ?_
  refine sr_ [0, 3, 4, 10] [] [] fun κ ξ hκ hξ => ?_
  try simp +decide only [go_sem, c0]
  repeat with_reducible refine an_ ?_
  refine hκ _ _ ?_; clear hκ hξ ξ κ
  refine cd_ (fun c1 => ?_) (fun c1 => ?_)
  ·simp only [go_sem, decide_eq_true_eq, decide_eq_false_iff_not, Bool.and_eq_true, Bool.and_eq_false_iff, Bool.not_eq_true', Bool.not_eq_false'] at c1
   have hr0 : r ≠ 0 := by omega
   have hst := hr.trans (ddR_step hr0)
   have hrem : Int.tmod (r : Int) 10 = ((r % 10 : Nat) : Int) := rfl
   have hquo : Int.tdiv (r : Int) 10 = ((r / 10 : Nat) : Int) := rfl
   have hwa : IntKind.wrap .i64 (48 + ((r % 10 : Nat) : Int)) = 48 + ((r % 10 : Nat) : Int) := w64 (by omega)
   have hwq : IntKind.wrap .i64 ((r / 10 : Nat) : Int) = ((r / 10 : Nat) : Int) := w64 (by omega)
   have hwu : IntKind.wrap .u8 (48 + ((r % 10 : Nat) : Int)) = 48 + ((r % 10 : Nat) : Int) := wu8 (by omega)
   have hrb : rowsBytes [[.int .u8 (48 + ((r % 10 : Nat) : Int))]] = some [UInt8.ofNat (48 + r % 10)] := rfl
   refine sk ?_
   refine bl ?_
   refine sr_ [0, 3, 4, 5] [] [] fun κ ξ hκ hξ => ?_
   try simp +decide only [go_sem, c0, c1, hrem, hquo, hwa, hwq, hwu, hrb, tf54]
   repeat with_reducible refine an_ ?_
   refine hκ _ _ ?_; clear hκ hξ ξ κ
   refine sq ?_
   refine sr_ [0, 3, 4, 5, 14] [] [] fun κ ξ hκ hξ => ?_
   try simp +decide only [go_sem, c0, c1, hrem, hquo, hwa, hwq, hwu, hrb, tf54]
   repeat with_reducible refine an_ ?_
   refine hκ _ _ ?_; clear hκ hξ ξ κ
   refine cd_ (fun c2 => ?_) (fun c2 => ?_)
   ·simp only [go_sem, decide_eq_true_eq, decide_eq_false_iff_not, Bool.and_eq_true, Bool.and_eq_false_iff, Bool.not_eq_true', Bool.not_eq_false'] at c2
    exfalso
    omega
   ·simp only [go_sem, decide_eq_true_eq, decide_eq_false_iff_not, Bool.and_eq_true, Bool.and_eq_false_iff, Bool.not_eq_true', Bool.not_eq_false'] at c2
    refine sk ?_
    refine sr_ [0, 3, 4] [] [] fun κ ξ hκ hξ => ?_
    try simp +decide only [go_sem, c0, c1, hrem, hquo, hwa, hwq, hwu, hrb, tf54, c2]
    repeat with_reducible refine an_ ?_
    refine hκ _ _ ?_; clear hκ hξ ξ κ
    refine rr_ [0, 3, 4] [] [] fun κ ξ hκ hξ => ?_
    try simp +decide only [go_sem, c0, c1, hrem, hquo, hwa, hwq, hwu, hrb, tf54, c2]
    repeat with_reducible refine an_ ?_
    refine hκ _ _ ?_; clear hκ hξ ξ κ
    refine ⟨(r / 10, UInt8.ofNat (48 + r % 10) :: out), ⟨⟨hst, by simp only; omega, ?_⟩, by simp only; omega⟩, EnvLe.of_eq rfl, .refl _⟩
    have hl := congrArg List.length hst
    rw [List.length_append, show ddR n = decDigits n from if_neg (by omega)] at hl
    simp only at hl ⊢
    omega
  ·simp only [go_sem, decide_eq_true_eq, decide_eq_false_iff_not, Bool.and_eq_true, Bool.and_eq_false_iff, Bool.not_eq_true', Bool.not_eq_false'] at c1
   refine ex ?_
   refine sq ?_
   refine sr_ [3, 27] [] [] fun κ ξ hκ hξ => ?_
   try simp +decide only [go_sem, c0, c1]
   repeat with_reducible refine an_ ?_
   refine hκ _ _ ?_; clear hκ hξ ξ κ
   refine cd_ (fun c3 => ?_) (fun c3 => ?_)
   ·simp only [go_sem, decide_eq_true_eq, decide_eq_false_iff_not, Bool.and_eq_true, Bool.and_eq_false_iff, Bool.not_eq_true', Bool.not_eq_false'] at c3
    exfalso
    omega
   ·simp only [go_sem, decide_eq_true_eq, decide_eq_false_iff_not, Bool.and_eq_true, Bool.and_eq_false_iff, Bool.not_eq_true', Bool.not_eq_false'] at c3
    refine sk ?_
    refine sr_ [2] [] [] fun κ ξ hκ hξ => ?_
    try simp +decide only [go_sem, c0, c1, c3]
    repeat with_reducible refine an_ ?_
    refine hκ _ _ ?_; clear hκ hξ ξ κ
    refine rt ?_
    refine retL ?_
    simp +decide only [go_sem, resD, resV, c0, c1, c3]
    obtain rfl : r = 0 := by omega
    rw [hit, show decDigits n = out from ((if_neg (by omega) : ddR n = decDigits n).symm.trans hr)]
    exact DLe.refl _
end Go.Proofs.YtfjnohmdilmfhaaGreatDoor
/- Claim: the reference's text and Print. Printed by a tool of our own. -/
namespace Go.Proofs.YtfjnohmdilmfhaaGreatDoor
open Go Go.RowKit
set_option linter.unusedSimpArgs false
set_option linter.unusedVariables false
set_option maxHeartbeats 4000000
set_option maxRecDepth 100000
open Go.Lib
theorem jn_nil (sep : W) : join [] sep = [] := rfl
theorem jn_one (sep x : W) : join [x] sep = x := by unfold join; simp [List.intercalate, List.intersperse]
theorem dec_i (n : Int) (h0 : 0 ≤ n) (h1 : n ≤ 1000000000000) : PCall Tryz.prog (.func 71) [.int .i64 n] (.str (itoa n)) := by
 obtain ⟨k, rfl⟩ : ∃ k : Nat, n = (k : Int) := ⟨n.toNat, by omega⟩
 exact dec_w k (by omega)
attribute [local go_sem] List.length_map rowAt_n nrow rowAt_t trow rowAt_i irow
attribute [local go_sem] rowAt_c rowAt_sn rowAt_bx snrow bxrow
attribute [local go_sem] rowAt_s srow rwz List.append_eq
theorem txt_s (e : Cl) (hN : clN e = true) (hS : clS e ≤ 1000) (ih : ∀ k : Cl, clS k < clS e → clN k = true → PCall Tryz.prog (.func 36) [.ag [.int .i64 k.op, .int .i64 k.a, .int .i64 k.b, .int .i64 k.n, .sl 5 (k.kids.map crow) .no]] (.str (prt k))) : PCall Tryz.prog (.func 36) [.ag [.int .i64 e.op, .int .i64 e.a, .int .i64 e.b, .int .i64 e.n, .sl 5 (e.kids.map crow) .no]] (.str (prt e)) := by
 obtain ⟨h1, h2, h3, h4, h5, h6⟩ := cl_rng hN
 have la := itoa_len (n := e.a) (by omega) (by omega)
 have lb := itoa_len (n := e.b) (by omega) (by omega)
 have ln := itoa_len (n := e.n) (by omega) (by omega)
 have hpl := prt_len _ e (Nat.le_refl _) hN
 refine PCall.le ?_
 refine fn_ Tryz.func36 (by rfl) (by rfl) (rs := [.tmp 2]) (by rfl) (by simp [Tryz.f36]) ?_
 refine sr_ [1] [1] [] fun κ ξ hκ hξ => ?_
 try simp +decide only [go_sem]
 repeat with_reducible refine an_ ?_
 refine hκ _ _ ?_; clear hκ hξ ξ κ
 refine sq ?_
 refine sr_ [1, 7] [] [] fun κ ξ hκ hξ => ?_
 try simp +decide only [go_sem]
 repeat with_reducible refine an_ ?_
 refine hκ _ _ ?_; clear hκ hξ ξ κ
 refine bl ?_
 refine sr_ [1, 7, 8] [] [] fun κ ξ hκ hξ => ?_
 try simp +decide only [go_sem]
 repeat with_reducible refine an_ ?_
 refine hκ _ _ ?_; clear hκ hξ ξ κ
 refine cd_ (fun c0 => ?_) (fun c0 => ?_)
 ·simp only [go_sem, decide_eq_true_eq, decide_eq_false_iff_not, Bool.and_eq_true, Bool.and_eq_false_iff, Bool.not_eq_true', Bool.not_eq_false'] at c0
  refine sr_ [2] [] [] fun κ ξ hκ hξ => ?_
  try simp +decide only [go_sem, c0]
  repeat with_reducible refine an_ ?_
  refine callF (dec_i _ (by omega) (by omega)) ?_
  try simp +decide only [go_sem, c0]
  repeat with_reducible refine an_ ?_
  refine hκ _ _ ?_; clear hκ hξ ξ κ
  refine rt ?_
  refine retL ?_
  simp +decide only [go_sem, resD, resV, c0]
  rw [prt_eq]
  unfold prtO
  rw [if_pos c0]
  exact DLe.refl _
 ·simp only [go_sem, decide_eq_true_eq, decide_eq_false_iff_not, Bool.and_eq_true, Bool.and_eq_false_iff, Bool.not_eq_true', Bool.not_eq_false'] at c0
  refine sr_ [1, 7, 14] [] [] fun κ ξ hκ hξ => ?_
  try simp +decide only [go_sem, c0]
  repeat with_reducible refine an_ ?_
  refine hκ _ _ ?_; clear hκ hξ ξ κ
  refine cd_ (fun c1 => ?_) (fun c1 => ?_)
  ·simp only [go_sem, decide_eq_true_eq, decide_eq_false_iff_not, Bool.and_eq_true, Bool.and_eq_false_iff, Bool.not_eq_true', Bool.not_eq_false'] at c1
   refine srd_ [2] [] [18, 23] [] fun κ ξ hκ hξ => ?_
   try simp +decide only [go_sem, c0, c1]
   repeat with_reducible refine an_ ?_
   refine scallF (dec_i _ (by omega) (by omega)) ?_
   try simp +decide only [go_sem, c0, c1]
   repeat with_reducible refine an_ ?_
   refine scallF (dec_i _ (by omega) (by omega)) ?_
   try simp +decide only [go_sem, c0, c1]
   repeat with_reducible refine an_ ?_
   refine hκ _ _ ?_; clear hκ hξ ξ κ
   refine rt ?_
   refine retL ?_
   simp +decide only [go_sem, resD, resV, c0, c1]
   rw [prt_eq]
   unfold prtO
   rw [if_neg c0, if_pos c1]
   exact DLe.refl _
  ·simp only [go_sem, decide_eq_true_eq, decide_eq_false_iff_not, Bool.and_eq_true, Bool.and_eq_false_iff, Bool.not_eq_true', Bool.not_eq_false'] at c1
   refine sr_ [1, 7, 25] [] [] fun κ ξ hκ hξ => ?_
   try simp +decide only [go_sem, c0, c1]
   repeat with_reducible refine an_ ?_
   refine hκ _ _ ?_; clear hκ hξ ξ κ
   refine cd_ (fun c2 => ?_) (fun c2 => ?_)
   ·simp only [go_sem, decide_eq_true_eq, decide_eq_false_iff_not, Bool.and_eq_true, Bool.and_eq_false_iff, Bool.not_eq_true', Bool.not_eq_false'] at c2
    refine srd_ [2] [] [29, 34] [] fun κ ξ hκ hξ => ?_
    try simp +decide only [go_sem, c0, c1, c2]
    repeat with_reducible refine an_ ?_
    refine scallF (dec_i _ (by omega) (by omega)) ?_
    try simp +decide only [go_sem, c0, c1, c2]
    repeat with_reducible refine an_ ?_
    refine scallF (dec_i _ (by omega) (by omega)) ?_
    try simp +decide only [go_sem, c0, c1, c2]
    repeat with_reducible refine an_ ?_
    refine hκ _ _ ?_; clear hκ hξ ξ κ
    refine rt ?_
    refine retL ?_
    simp +decide only [go_sem, resD, resV, c0, c1, c2]
    rw [prt_eq]
    unfold prtO
    rw [if_neg c0, if_neg c1, if_pos c2]
    exact DLe.refl _
   ·simp only [go_sem, decide_eq_true_eq, decide_eq_false_iff_not, Bool.and_eq_true, Bool.and_eq_false_iff, Bool.not_eq_true', Bool.not_eq_false'] at c2
    refine sr_ [1, 7, 36] [] [] fun κ ξ hκ hξ => ?_
    try simp +decide only [go_sem, c0, c1, c2]
    repeat with_reducible refine an_ ?_
    refine hκ _ _ ?_; clear hκ hξ ξ κ
    refine cd_ (fun c3 => ?_) (fun c3 => ?_)
    ·simp only [go_sem, decide_eq_true_eq, decide_eq_false_iff_not, Bool.and_eq_true, Bool.and_eq_false_iff, Bool.not_eq_true', Bool.not_eq_false'] at c3
     refine sr_ [2] [] [] fun κ ξ hκ hξ => ?_
     try simp +decide only [go_sem, c0, c1, c2, c3]
     repeat with_reducible refine an_ ?_
     refine hκ _ _ ?_; clear hκ hξ ξ κ
     refine rt ?_
     refine retL ?_
     simp +decide only [go_sem, resD, resV, c0, c1, c2, c3]
     rw [prt_eq]
     unfold prtO
     rw [if_neg c0, if_neg c1, if_neg c2, if_pos c3]
     exact DLe.refl _
    ·simp only [go_sem, decide_eq_true_eq, decide_eq_false_iff_not, Bool.and_eq_true, Bool.and_eq_false_iff, Bool.not_eq_true', Bool.not_eq_false'] at c3
     refine sr_ [1, 7, 38] [] [] fun κ ξ hκ hξ => ?_
     try simp +decide only [go_sem, c0, c1, c2, c3]
     repeat with_reducible refine an_ ?_
     refine hκ _ _ ?_; clear hκ hξ ξ κ
     refine cd_ (fun c4 => ?_) (fun c4 => ?_)
     ·simp only [go_sem, decide_eq_true_eq, decide_eq_false_iff_not, Bool.and_eq_true, Bool.and_eq_false_iff, Bool.not_eq_true', Bool.not_eq_false'] at c4
      refine srd_ [2] [] [42, 47] [] fun κ ξ hκ hξ => ?_
      try simp +decide only [go_sem, c0, c1, c2, c3, c4]
      repeat with_reducible refine an_ ?_
      refine scallF (dec_i _ (by omega) (by omega)) ?_
      try simp +decide only [go_sem, c0, c1, c2, c3, c4]
      repeat with_reducible refine an_ ?_
      refine scallF (dec_i _ (by omega) (by omega)) ?_
      try simp +decide only [go_sem, c0, c1, c2, c3, c4]
      repeat with_reducible refine an_ ?_
      refine hκ _ _ ?_; clear hκ hξ ξ κ
      refine rt ?_
      refine retL ?_
      simp +decide only [go_sem, resD, resV, c0, c1, c2, c3, c4]
      rw [prt_eq]
      unfold prtO
      rw [if_neg c0, if_neg c1, if_neg c2, if_neg c3, if_pos c4]
      exact DLe.refl _
     ·simp only [go_sem, decide_eq_true_eq, decide_eq_false_iff_not, Bool.and_eq_true, Bool.and_eq_false_iff, Bool.not_eq_true', Bool.not_eq_false'] at c4
      refine sr_ [1, 49] [] [] fun κ ξ hκ hξ => ?_
      try simp +decide only [go_sem, c0, c1, c2, c3, c4]
      repeat with_reducible refine an_ ?_
      refine hκ _ _ ?_; clear hκ hξ ξ κ
      refine cd_ (fun c5 => ?_) (fun c5 => ?_)
      ·simp only [go_sem, decide_eq_true_eq, decide_eq_false_iff_not, Bool.and_eq_true, Bool.and_eq_false_iff, Bool.not_eq_true', Bool.not_eq_false'] at c5
       have h8k : 0 < e.kids.length := by omega
       have h8k2 : (0 : Int) < (e.kids.length : Int) := by omega
       have hk8 := prt_len _ _ (Nat.le_refl _) (clN_kid hN h8k)
       have hk9 := kid_lt h8k
       have hr0 := rowAt_c (l := e.kids) (i := 0) h8k2
       refine sr_ [2] [] [] fun κ ξ hκ hξ => ?_
       try simp +decide only [go_sem, c0, c1, c2, c3, c4, c5, h8k2, hr0]
       repeat with_reducible refine an_ ?_
       refine callF (ih _ (kid_lt h8k) (clN_kid hN h8k)) ?_
       try simp +decide only [go_sem, c0, c1, c2, c3, c4, c5, h8k2, hr0]
       repeat with_reducible refine an_ ?_
       refine hκ _ _ ?_; clear hκ hξ ξ κ
       refine rt ?_
       refine retL ?_
       simp +decide only [go_sem, resD, resV, c0, c1, c2, c3, c4, c5, h8k2, hr0]
       rw [prt_eq]
       unfold prtO
       rw [if_neg c0, if_neg c1, if_neg c2, if_neg c3, if_neg c4, if_neg (by omega), if_neg (by omega), prt_kid h8k]
       exact DLe.refl _
      ·simp only [go_sem, decide_eq_true_eq, decide_eq_false_iff_not, Bool.and_eq_true, Bool.and_eq_false_iff, Bool.not_eq_true', Bool.not_eq_false'] at c5
       refine sk ?_
       refine sr_ [1, 3] [] [] fun κ ξ hκ hξ => ?_
       try simp +decide only [go_sem, c0, c1, c2, c3, c4, c5]
       repeat with_reducible refine an_ ?_
       refine hκ _ _ ?_; clear hκ hξ ξ κ
       refine jn (α := W) (fun sep => mk [(1, (.el [.int .i64 e.op, .int .i64 e.a, .int .i64 e.b, .int .i64 e.n, .sl 5 (e.kids.map crow) .no])), (3, .str sep)]) (fun _ => []) (fun sep => sep = (if e.op = 7 then [32, 111, 114, 32] else [32, 97, 110, 100, 32]) ∧ sep.length ≤ 5) ?_ ?_
       ·refine sr_ [1, 3, 59] [] [] fun κ ξ hκ hξ => ?_
        try simp +decide only [go_sem, c0, c1, c2, c3, c4, c5]
        repeat with_reducible refine an_ ?_
        refine hκ _ _ ?_; clear hκ hξ ξ κ
        refine cd_ (fun c6 => ?_) (fun c6 => ?_)
        ·simp only [go_sem, decide_eq_true_eq, decide_eq_false_iff_not, Bool.and_eq_true, Bool.and_eq_false_iff, Bool.not_eq_true', Bool.not_eq_false'] at c6
         have k6 : e.op = 7 := c6
         replace c6 : True := trivial
         refine rr_ [1, 3] [] [] fun κ ξ hκ hξ => ?_
         try simp +decide only [go_sem, c0, c1, c2, c3, c4, c5, c6]
         repeat with_reducible refine an_ ?_
         refine hκ _ _ ?_; clear hκ hξ ξ κ
         exact ⟨_, ⟨(if_pos k6).symm, by decide⟩, EnvLe.of_eq rfl, .refl _⟩
        ·simp only [go_sem, decide_eq_true_eq, decide_eq_false_iff_not, Bool.and_eq_true, Bool.and_eq_false_iff, Bool.not_eq_true', Bool.not_eq_false'] at c6
         have k6 : ¬ e.op = 7 := c6
         refine sk ?_
         exact ⟨_, ⟨(if_neg k6).symm, by decide⟩, EnvLe.of_l ⟨rfl, rfl, trivial⟩, .refl _⟩
       ·rintro sep ⟨hsep, hs5⟩
        refine sr_ [1, 3, 4] [] [] fun κ ξ hκ hξ => ?_
        try simp +decide only [go_sem, c0, c1, c2, c3, c4, c5]
        repeat with_reducible refine an_ ?_
        refine hκ _ _ ?_; clear hκ hξ ξ κ
        refine sq ?_
        refine sr_ [1, 3, 4, 5] [] [] fun κ ξ hκ hξ => ?_
        try simp +decide only [go_sem, c0, c1, c2, c3, c4, c5]
        repeat with_reducible refine an_ ?_
        refine hκ _ _ ?_; clear hκ hξ ξ κ
        refine bl ?_
        refine lp (α := Nat) (fun i => mk [(1, (.el [.int .i64 e.op, .int .i64 e.a, .int .i64 e.b, .int .i64 e.n, .sl 5 (e.kids.map crow) .no])), (3, .str sep), (4, .str ([40] ++ join ((e.kids.take i).map prt) sep)), (5, .int .i64 i)]) (fun _ => []) (fun i => i ≤ e.kids.length) (fun i => e.kids.length - i) 0 ⟨by omega, EnvLe.of_eq rfl, .refl _⟩ ?_
        rintro i hi
        have hit := itk_len hN hs5 i
        refine sq ?_
        refine sr_ [1, 3, 4, 5, 64] [] [] fun κ ξ hκ hξ => ?_
        try simp +decide only [go_sem, c0, c1, c2, c3, c4, c5]
        repeat with_reducible refine an_ ?_
        refine hκ _ _ ?_; clear hκ hξ ξ κ
        refine cd_ (fun c7 => ?_) (fun c7 => ?_)
        ·simp only [go_sem, decide_eq_true_eq, decide_eq_false_iff_not, Bool.and_eq_true, Bool.and_eq_false_iff, Bool.not_eq_true', Bool.not_eq_false'] at c7
         have hil : i < e.kids.length := by omega
         have hw1 : IntKind.wrap .i64 ((i : Int) + 1) = ((i + 1 : Nat) : Int) := w64 (n := (i : Int) + 1) (by omega)
         have hkl := prt_len _ _ (Nat.le_refl _) (clN_kid hN hil)
         have hkl2 := kid_lt hil
         refine sk ?_
         refine sq ?_
         refine bl ?_
         refine sq ?_
         refine sr_ [1, 3, 4, 5, 68] [] [] fun κ ξ hκ hξ => ?_
         try simp +decide only [go_sem, c0, c1, c2, c3, c4, c5, c7, hw1]
         repeat with_reducible refine an_ ?_
         refine hκ _ _ ?_; clear hκ hξ ξ κ
         refine cd_ (fun c8 => ?_) (fun c8 => ?_)
         ·simp only [go_sem, decide_eq_true_eq, decide_eq_false_iff_not, Bool.and_eq_true, Bool.and_eq_false_iff, Bool.not_eq_true', Bool.not_eq_false'] at c8
          have hne : (e.kids.take i).map prt ≠ [] := by
           intro h
           have h := congrArg List.length h
           rw [List.length_map, List.length_take, List.length_nil] at h
           omega
          refine rr_ [1, 3, 4, 5] [] [] fun κ ξ hκ hξ => ?_
          try simp +decide only [go_sem, c0, c1, c2, c3, c4, c5, c7, hw1, c8, List.length_append]
          repeat with_reducible refine an_ ?_
          refine hκ _ _ ?_; clear hκ hξ ξ κ
          refine rr_ [1, 3, 4, 5] [] [] fun κ ξ hκ hξ => ?_
          try simp +decide only [go_sem, c0, c1, c2, c3, c4, c5, c7, hw1, c8, List.length_append]
          repeat with_reducible refine an_ ?_
          refine callF (ih _ (kid_lt hil) (clN_kid hN hil)) ?_
          try simp +decide only [go_sem, c0, c1, c2, c3, c4, c5, c7, hw1, c8, List.length_append]
          repeat with_reducible refine an_ ?_
          refine hκ _ _ ?_; clear hκ hξ ξ κ
          refine rr_ [1, 3, 4, 5] [] [] fun κ ξ hκ hξ => ?_
          try simp +decide only [go_sem, c0, c1, c2, c3, c4, c5, c7, hw1, c8, List.length_append]
          repeat with_reducible refine an_ ?_
          refine hκ _ _ ?_; clear hκ hξ ξ κ
          refine ⟨i + 1, ⟨by omega, by omega⟩, EnvLe.of_eq ?_, .refl _⟩
          rw [take_c hil, List.map_append, List.map_cons, List.map_nil, icl_snoc sep (prt (cat e.kids i)) ((e.kids.take i).map prt) hne]
          simp only [List.append_assoc, List.cons_append, List.nil_append]
         ·simp only [go_sem, decide_eq_true_eq, decide_eq_false_iff_not, Bool.and_eq_true, Bool.and_eq_false_iff, Bool.not_eq_true', Bool.not_eq_false'] at c8
          refine sk ?_
          refine rr_ [1, 3, 4, 5] [] [] fun κ ξ hκ hξ => ?_
          try simp +decide only [go_sem, c0, c1, c2, c3, c4, c5, c7, hw1, c8]
          repeat with_reducible refine an_ ?_
          refine callF (ih _ (kid_lt hil) (clN_kid hN hil)) ?_
          try simp +decide only [go_sem, c0, c1, c2, c3, c4, c5, c7, hw1, c8]
          repeat with_reducible refine an_ ?_
          refine hκ _ _ ?_; clear hκ hξ ξ κ
          refine rr_ [1, 3, 4, 5] [] [] fun κ ξ hκ hξ => ?_
          try simp +decide only [go_sem, c0, c1, c2, c3, c4, c5, c7, hw1, c8]
          repeat with_reducible refine an_ ?_
          refine hκ _ _ ?_; clear hκ hξ ξ κ
          obtain rfl : i = 0 := by omega
          refine ⟨1, ⟨by omega, by omega⟩, EnvLe.of_eq ?_, .refl _⟩
          rw [take_c hil, List.take_zero, List.nil_append, List.map_cons, List.map_nil, jn_one, jn_nil]
          rfl
        ·simp only [go_sem, decide_eq_true_eq, decide_eq_false_iff_not, Bool.and_eq_true, Bool.and_eq_false_iff, Bool.not_eq_true', Bool.not_eq_false'] at c7
         obtain rfl : i = e.kids.length := by omega
         rw [List.take_length] at *
         refine ex ?_
         refine sr_ [2] [] [] fun κ ξ hκ hξ => ?_
         try simp +decide only [go_sem, c0, c1, c2, c3, c4, c5, c7]
         repeat with_reducible refine an_ ?_
         refine hκ _ _ ?_; clear hκ hξ ξ κ
         refine rt ?_
         refine retL ?_
         simp +decide only [go_sem, resD, resV, c0, c1, c2, c3, c4, c5, c7]
         rw [prt_eq]
         unfold prtO
         rw [if_neg c0, if_neg c1, if_neg c2, if_neg c3, if_neg c4]
         rw [hsep]
         by_cases h7 : e.op = 7
         ·rw [if_neg (by omega), if_pos h7, if_pos h7]; exact DLe.refl _
         ·rw [if_pos (by omega), if_neg h7]; exact DLe.refl _
theorem txt_w (e : Cl) (hN : clN e = true) (hS : clS e ≤ 1000) : PCall Tryz.prog (.func 36) [.ag [.int .i64 e.op, .int .i64 e.a, .int .i64 e.b, .int .i64 e.n, .sl 5 (e.kids.map crow) .no]] (.str (prt e)) := by
 suffices h : ∀ n (e : Cl), clS e ≤ n → clN e = true → clS e ≤ 1000 → PCall Tryz.prog (.func 36) [.ag [.int .i64 e.op, .int .i64 e.a, .int .i64 e.b, .int .i64 e.n, .sl 5 (e.kids.map crow) .no]] (.str (prt e)) from h _ e (Nat.le_refl _) hN hS
 intro n
 induction n with
 | zero => intro e he; have := clS_pos e; omega
 | succ n ih => exact fun e he hN hS => txt_s e hN hS fun k hk hkN => ih k (by omega) hkN (by omega)
theorem rpri_w (e : Cl) : PCall Tryz.prog (.func 20) [.ag [.int .i64 e.op, .int .i64 e.a, .int .i64 e.b, .int .i64 e.n, .sl 5 (e.kids.map crow) .no]] (.tup [.str (prtP e), .int .i64 (prtE e)]) := by
 refine PCall.le ?_
 refine fn_ Tryz.func20 (by rfl) (by rfl) (rs := [.tmp 2, .tmp 3]) (by rfl) (by simp [Tryz.f20]) ?_
 refine sr_ [1] [1] [] fun κ ξ hκ hξ => ?_
 try simp +decide only [go_sem]
 repeat with_reducible refine an_ ?_
 refine hκ _ _ ?_; clear hκ hξ ξ κ
 refine sr_ [1, 4] [] [] fun κ ξ hκ hξ => ?_
 try simp +decide only [go_sem]
 repeat with_reducible refine an_ ?_
 refine callF (rclv_w _) ?_
 try simp +decide only [go_sem]
 repeat with_reducible refine an_ ?_
 refine hκ _ _ ?_; clear hκ hξ ξ κ
 refine sq ?_
 refine sr_ [1, 8] [] [] fun κ ξ hκ hξ => ?_
 try simp +decide only [go_sem]
 repeat with_reducible refine an_ ?_
 refine hκ _ _ ?_; clear hκ hξ ξ κ
 refine cd_ (fun c0 => ?_) (fun c0 => ?_)
 ·simp only [go_sem, decide_eq_true_eq, decide_eq_false_iff_not, Bool.and_eq_true, Bool.and_eq_false_iff, Bool.not_eq_true', Bool.not_eq_false'] at c0
  refine sr_ [2, 3] [] [] fun κ ξ hκ hξ => ?_
  try simp +decide only [go_sem, c0]
  repeat with_reducible refine an_ ?_
  refine hκ _ _ ?_; clear hκ hξ ξ κ
  refine rt ?_
  refine retL ?_
  simp +decide only [go_sem, resD, resV, c0]
  rw [show prtP e = [] from if_neg (by rw [c0]; simp), show prtE e = 1 from if_neg (by rw [c0]; simp)]
  exact DLe.refl _
 ·simp only [go_sem, decide_eq_true_eq, decide_eq_false_iff_not, Bool.and_eq_true, Bool.and_eq_false_iff, Bool.not_eq_true', Bool.not_eq_false'] at c0
  obtain ⟨hN, hS⟩ := clB_N c0
  refine sk ?_
  refine sr_ [2, 3] [] [] fun κ ξ hκ hξ => ?_
  try simp +decide only [go_sem, c0]
  repeat with_reducible refine an_ ?_
  refine callF (txt_w e hN (by omega)) ?_
  try simp +decide only [go_sem, c0]
  repeat with_reducible refine an_ ?_
  refine hκ _ _ ?_; clear hκ hξ ξ κ
  refine rt ?_
  refine retL ?_
  simp +decide only [go_sem, resD, resV, c0]
  rw [show prtP e = prt e from if_pos c0, show prtE e = 0 from if_pos c0]
  exact DLe.refl _
end Go.Proofs.YtfjnohmdilmfhaaGreatDoor

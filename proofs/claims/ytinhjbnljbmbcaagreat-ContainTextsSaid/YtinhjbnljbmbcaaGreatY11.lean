/- Cascade: the style of a node. Printed by a tool of our own. -/
import Derived.Test.YtinhjbnljbmbcaaGreatY10
import Derived.Test.YtinhjbnljbmbcaaGreatY09
import Derived.Test.YtinhjbnljbmbcaaGreatY03
namespace Go.Proofs.YtinhjbnljbmbcaaGreat
open Go Go.RowKit
set_option linter.unusedSimpArgs false
set_option linter.unusedVariables false
set_option maxHeartbeats 4000000
set_option maxRecDepth 100000
attribute [local go_sem] List.length_map rowAt_n nrow rowAt_t trow rowAt_i irow
attribute [local go_sem] rowAt_e rowAt_tm rowAt_dc rowAt_ru tmrow dcrow rurow
attribute [local go_sem] rowAt_br rowAt_s rowAt_fo rowAt_ve rowAt_g rowAt_k grow krow srow brrow forow dorow verow
attribute [local go_sem] iD_all iD_len rw2_0 rw2_1 rw1_0 Int.toNat_one
attribute [local go_sem] rwz rws1 rws2 rws3 rws4 wr1 wr2 wr3 wr4 wr5
attribute [local go_sem] cutL_len cutL_all iD_putU firstS_len List.length_set iD_putL clD_cell clD_all clD_end crow List.append_nil Int.reduceToNat flat_i irow_cell
theorem sty_w (d : Do) (x w s lg : Int) (par : List Int) (wd bx : Int) (hpl : par.length = 33) : PCall Tryz.prog (.func 24) [.ag (dorow d), .int .i64 x, .ag [.int .i64 w, .int .i64 s, .int .i64 lg], .ag (par.map iD), .int .i64 wd, .int .i64 bx] (.tup [.ag ((styR d.nodes d.rules x w s lg par wd bx).1.map iD), .int .i64 (styR d.nodes d.rules x w s lg par wd bx).2]) := by
 have hch := chunk_i hpl
 have h33 : par.take 33 = par := List.take_of_length_le (by omega)
 refine PCall.le ?_
 refine fn_ Tryz.func24 (by rfl) (by rfl) (rs := [.cell 12 33, .tmp 13]) (by rfl) (by simp [Tryz.f24]) ?_
 refine sr_ [1, 4, 5, 6, 8, 9, 12] [6, 8, 9] [] fun κ ξ hκ hξ => ?_
 try simp +decide only [go_sem, hpl, ↓hch, h33]
 repeat with_reducible refine an_ ?_
 intro b12 hb12
 try simp +decide only [go_sem, hpl, ↓hch, h33, hb12]
 repeat with_reducible refine an_ ?_
 refine hκ _ _ ?_; clear hκ hξ ξ κ
 refine weak _ (EnvLe.refl _) (σ' := [(b12, .cells (zS.map iD))]) (.refl _) ?_
 refine srz_ [(14, [])] [1, 4, 5, 6, 8, 9, 12, 14] [] [] fun κ ξ hκ hξ => ?_
 try simp +decide only [go_sem, hpl, ↓hch, h33, hb12]
 repeat with_reducible refine an_ ?_
 refine callF (cuts_w) ?_
 try simp +decide only [go_sem, hpl, ↓hch, h33, hb12]
 repeat with_reducible refine an_ ?_
 intro b14 hb14
 try simp +decide only [go_sem, hpl, ↓hch, h33, hb12, hb14]
 repeat with_reducible refine an_ ?_
 refine hκ _ _ ?_; clear hκ hξ ξ κ
 refine sq ?_
 refine sr_ [1, 4, 5, 6, 8, 9, 12, 14, 31, 32] [] [] fun κ ξ hκ hξ => ?_
 try simp +decide only [go_sem, hpl, ↓hch, h33, hb12, hb14]
 repeat with_reducible refine an_ ?_
 refine hκ _ _ ?_; clear hκ hξ ξ κ
 refine bl ?_
 refine lp (α := Nat) (fun i => mk [(1, .int .i64 x), (4, .int .i64 wd), (5, .int .i64 bx), (6, .el (dorow d)), (8, .el [.int .i64 w, .int .i64 s, .int .i64 lg]), (9, .el (par.map iD)), (12, .ptr b12 0), (14, .el cutL), (31, .ag (par.map iD)), (32, .int .i64 i)]) (fun _ => [(b12, .cells (zS.map iD))]) (fun i => i ≤ 33 ∧ ∀ j, j < i → cutV j (iat par j) = iat par j) (fun i => 33 - i) 0 ⟨⟨by omega, by intro j hj; omega⟩, EnvLe.of_eq rfl, .refl _⟩ ?_
 rintro i ⟨hi, hj⟩
 refine sr_ [1, 4, 5, 6, 8, 9, 12, 14, 31, 32, 33] [] [] fun κ ξ hκ hξ => ?_
 try simp +decide only [go_sem, hpl, ↓hch, h33, hb12, hb14]
 repeat with_reducible refine an_ ?_
 refine hκ _ _ ?_; clear hκ hξ ξ κ
 refine sq ?_
 refine cd_ (fun c0 => ?_) (fun c0 => ?_)
 ·simp only [go_sem] at c0
  have hi' : i < 33 := by omega
  have hhd := hd_i (l := par) (k := i) (by omega)
  have hcd := cutL_hd hi'
  have hce := cutL_le hi'
  refine sk ?_
  refine sq ?_
  refine bl ?_
  refine sr_ [1, 4, 5, 6, 8, 9, 12, 14, 15, 16, 31, 32] [] [] fun κ ξ hκ hξ => ?_
  try simp +decide only [go_sem, hpl, ↓hch, h33, hb12, hb14, c0, hi', hhd, hcd, hce, Nat.mul_one, Nat.zero_add]
  repeat with_reducible refine an_ ?_
  refine hκ _ _ ?_; clear hκ hξ ξ κ
  refine sr_ [1, 4, 5, 6, 8, 9, 12, 14, 31, 32, 42] [] [] fun κ ξ hκ hξ => ?_
  try simp +decide only [go_sem, hpl, ↓hch, h33, hb12, hb14, c0, hi', hhd, hcd, hce, Nat.mul_one, Nat.zero_add]
  repeat with_reducible refine an_ ?_
  refine cut_call ?_
  try simp +decide only [go_sem, hpl, ↓hch, h33, hb12, hb14, c0, hi', hhd, hcd, hce, Nat.mul_one, Nat.zero_add]
  repeat with_reducible refine an_ ?_
  refine hκ _ _ ?_; clear hκ hξ ξ κ
  refine cd_ (fun c1 => ?_) (fun c1 => ?_)
  ·try simp only [go_sem] at c1
   refine sr_ [12, 13] [] [] fun κ ξ hκ hξ => ?_
   try simp +decide only [go_sem, hpl, ↓hch, h33, hb12, hb14, c0, hi', hhd, hcd, hce, Nat.mul_one, Nat.zero_add, c1]
   repeat with_reducible refine an_ ?_
   refine hκ _ _ ?_; clear hκ hξ ξ κ
   refine rt ?_
   refine retE ?_
   simp +decide only [go_sem, resD, resV, hpl, ↓hch, h33, hb12, hb14, c0, hi', hhd, hcd, hce, Nat.mul_one, Nat.zero_add, c1]
   rw [show styR d.nodes d.rules x w s lg par wd bx = (zS, 1) by unfold styR; exact if_neg fun h => by rw [parB_no hi' (by simpa [iat] using c1)] at h; simp at h]
   rfl
  ·try simp only [go_sem] at c1
   refine sk ?_
   refine rr_ [1, 4, 5, 6, 8, 9, 12, 14, 31, 32] [] [] fun κ ξ hκ hξ => ?_
   try simp +decide only [go_sem, hpl, ↓hch, h33, hb12, hb14, c0, hi', hhd, hcd, hce, Nat.mul_one, Nat.zero_add, c1]
   repeat with_reducible refine an_ ?_
   refine hκ _ _ ?_; clear hκ hξ ξ κ
   refine ⟨i + 1, ⟨⟨by omega, ?_⟩, by omega⟩, EnvLe.of_eq (by rw [w64 (by omega)]; rfl), .refl _⟩
   intro j h
   rcases Nat.lt_succ_iff_lt_or_eq.1 h with h | rfl
   ·exact hj j h
   ·first | assumption | simpa [iat] using c1
 ·simp only [go_sem] at c0
  have hpb : parB par = true := parB_yes fun j h => hj j (by omega)
  refine ex ?_
  refine srz_ [(17, [])] [4, 6, 8, 9, 12, 14, 17] [] [] fun κ ξ hκ hξ => ?_
  try simp +decide only [go_sem, hpl, ↓hch, h33, hb12, hb14, c0]
  repeat with_reducible refine an_ ?_
  intro b17 hb17
  try simp +decide only [go_sem, hpl, ↓hch, h33, hb12, hb14, c0, hb17]
  repeat with_reducible refine an_ ?_
  refine hκ _ _ ?_; clear hκ hξ ξ κ
  refine sq ?_
  refine sr_ [4, 6, 8, 9, 12, 14, 17, 55] [] [] fun κ ξ hκ hξ => ?_
  try simp +decide only [go_sem, hpl, ↓hch, h33, hb12, hb14, c0, hb17]
  repeat with_reducible refine an_ ?_
  refine callF (cwi_w _ _ _) ?_
  try simp +decide only [go_sem, hpl, ↓hch, h33, hb12, hb14, c0, hb17]
  repeat with_reducible refine an_ ?_
  refine hκ _ _ ?_; clear hκ hξ ξ κ
  refine cd_ (fun c2 => ?_) (fun c2 => ?_)
  ·try simp only [go_sem] at c2
   refine sr_ [12, 13] [] [] fun κ ξ hκ hξ => ?_
   try simp +decide only [go_sem, hpl, ↓hch, h33, hb12, hb14, c0, hb17, c2]
   repeat with_reducible refine an_ ?_
   refine hκ _ _ ?_; clear hκ hξ ξ κ
   refine rt ?_
   refine retE ?_
   simp +decide only [go_sem, resD, resV, hpl, ↓hch, h33, hb12, hb14, c0, hb17, c2]
   rw [show styR d.nodes d.rules x w s lg par wd bx = (zS, 1) by unfold styR; exact if_neg fun h => by omega]
   rfl
  ·try simp only [go_sem] at c2
   refine sk ?_
   refine sq ?_
   refine sr_ [4, 6, 8, 9, 12, 14, 17, 18] [] [] fun κ ξ hκ hξ => ?_
   try simp +decide only [go_sem, hpl, ↓hch, h33, hb12, hb14, c0, hb17, c2]
   repeat with_reducible refine an_ ?_
   refine callF (chk_w _ _ _ _ _ _ _) ?_
   try simp +decide only [go_sem, hpl, ↓hch, h33, hb12, hb14, c0, hb17, c2]
   repeat with_reducible refine an_ ?_
   refine hκ _ _ ?_; clear hκ hξ ξ κ
   refine sr_ [4, 6, 8, 9, 12, 14, 17, 18, 60] [] [] fun κ ξ hκ hξ => ?_
   try simp +decide only [go_sem, hpl, ↓hch, h33, hb12, hb14, c0, hb17, c2]
   repeat with_reducible refine an_ ?_
   refine hκ _ _ ?_; clear hκ hξ ξ κ
   refine cd_ (fun c3 => ?_) (fun c3 => ?_)
   ·simp only [go_sem] at c3
    refine sr_ [12, 13] [] [] fun κ ξ hκ hξ => ?_
    try simp +decide only [go_sem, hpl, ↓hch, h33, hb12, hb14, c0, hb17, c2, c3]
    repeat with_reducible refine an_ ?_
    refine hκ _ _ ?_; clear hκ hξ ξ κ
    refine rt ?_
    refine retE ?_
    simp +decide only [go_sem, resD, resV, hpl, ↓hch, h33, hb12, hb14, c0, hb17, c2, c3]
    rw [show styR d.nodes d.rules x w s lg par wd bx = (zS, ckE d.nodes d.rules x w s lg bx) by unfold styR; rw [if_pos ⟨hpb, c2⟩, if_neg c3]]
    rfl
   ·simp only [go_sem] at c3
    obtain ⟨hckb, hidb, hix⟩ := ckE_zero c3
    obtain ⟨⟨⟨htb, hrb⟩, hrd⟩, hbx⟩ := ckB_iff.1 hckb
    obtain ⟨hrs, hdk⟩ := rules_dc hrb
    have hcl := claims_len d.nodes d.rules x w s lg bx
    have hcl6 : (clD (claimsR d.nodes d.rules x w s lg bx)).length = 198 := by rw [clD_len, hcl]
    have hq8 : (List.map iD (List.drop 8 par)).headD .top = .int .i64 (iat par 8) := hd_i (by omega)
    have hq9 : (List.map iD (List.drop 9 par)).headD .top = .int .i64 (iat par 9) := hd_i (by omega)
    have hq10 : (List.map iD (List.drop 10 par)).headD .top = .int .i64 (iat par 10) := hd_i (by omega)
    have hq11 : (List.map iD (List.drop 11 par)).headD .top = .int .i64 (iat par 11) := hd_i (by omega)
    have h8d : List.drop 8 (List.drop 25 par) = [] := List.drop_eq_nil_of_le (by rw [List.length_drop]; omega)
    have h25 : (List.drop 25 par).length = 8 := by rw [List.length_drop]; omega
    have h8t : (List.drop 25 par).take 8 = List.drop 25 par := List.take_of_length_le (by omega)
    refine sk ?_
    refine sr_ [4, 6, 8, 9, 12, 14, 17, 19] [] [] fun κ ξ hκ hξ => ?_
    try simp +decide only [go_sem, hpl, ↓hch, h33, hb12, hb14, c0, hb17, c2, c3, hcl, hcl6, hq8, hq9, hq10, hq11, h25, h8t, h8d]
    repeat with_reducible refine an_ ?_
    refine callF (frst_w) ?_
    try simp +decide only [go_sem, hpl, ↓hch, h33, hb12, hb14, c0, hb17, c2, c3, hcl, hcl6, hq8, hq9, hq10, hq11, h25, h8t, h8d]
    repeat with_reducible refine an_ ?_
    intro b19 hb19
    try simp +decide only [go_sem, hpl, ↓hch, h33, hb12, hb14, c0, hb17, c2, c3, hcl, hcl6, hq8, hq9, hq10, hq11, h25, h8t, h8d, hb19]
    repeat with_reducible refine an_ ?_
    refine hκ _ _ ?_; clear hκ hξ ξ κ
    refine sq ?_
    refine sr_ [4, 6, 8, 9, 12, 14, 17, 19, 64, 65, 66] [] [] fun κ ξ hκ hξ => ?_
    try simp +decide only [go_sem, hpl, ↓hch, h33, hb12, hb14, c0, hb17, c2, c3, hcl, hcl6, hq8, hq9, hq10, hq11, h25, h8t, h8d, hb19]
    repeat with_reducible refine an_ ?_
    refine hκ _ _ ?_; clear hκ hξ ξ κ
    refine bl ?_
    refine lpN 5 ?_
    refine rnd ?_
    refine sr_ [4, 6, 8, 9, 12, 14, 17, 19, 64, 65, 66, 67] [] [] fun κ ξ hκ hξ => ?_
    try simp +decide only [go_sem, hpl, ↓hch, h33, hb12, hb14, c0, hb17, c2, c3, hcl, hcl6, hq8, hq9, hq10, hq11, h25, h8t, h8d, hb19]
    repeat with_reducible refine an_ ?_
    refine hκ _ _ ?_; clear hκ hξ ξ κ
    refine sq ?_
    refine cdt (by rfl) ?_
    refine sk ?_
    refine sq ?_
    refine bl ?_
    refine sr_ [4, 6, 8, 9, 12, 14, 17, 19, 21, 64, 65, 66] [] [] fun κ ξ hκ hξ => ?_
    try simp +decide only [go_sem, hpl, ↓hch, h33, hb12, hb14, c0, hb17, c2, c3, hcl, hcl6, hq8, hq9, hq10, hq11, h25, h8t, h8d, hb19]
    repeat with_reducible refine an_ ?_
    refine hκ _ _ ?_; clear hκ hξ ξ κ
    refine rr_ [4, 6, 8, 9, 12, 14, 17, 19, 64, 65, 66] [] [] fun κ ξ hκ hξ => ?_
    try simp +decide only [go_sem, hpl, ↓hch, h33, hb12, hb14, c0, hb17, c2, c3, hcl, hcl6, hq8, hq9, hq10, hq11, h25, h8t, h8d, hb19]
    repeat with_reducible refine an_ ?_
    refine hκ _ _ ?_; clear hκ hξ ξ κ
    refine rr_ [4, 6, 8, 9, 12, 14, 17, 19, 64, 65, 66] [] [] fun κ ξ hκ hξ => ?_
    try simp +decide only [go_sem, hpl, ↓hch, h33, hb12, hb14, c0, hb17, c2, c3, hcl, hcl6, hq8, hq9, hq10, hq11, h25, h8t, h8d, hb19]
    repeat with_reducible refine an_ ?_
    refine hκ _ _ ?_; clear hκ hξ ξ κ
    refine rnd ?_
    refine sr_ [4, 6, 8, 9, 12, 14, 17, 19, 64, 65, 66, 67] [] [] fun κ ξ hκ hξ => ?_
    try simp +decide only [go_sem, hpl, ↓hch, h33, hb12, hb14, c0, hb17, c2, c3, hcl, hcl6, hq8, hq9, hq10, hq11, h25, h8t, h8d, hb19]
    repeat with_reducible refine an_ ?_
    refine hκ _ _ ?_; clear hκ hξ ξ κ
    refine sq ?_
    refine cdt (by rfl) ?_
    refine sk ?_
    refine sq ?_
    refine bl ?_
    refine sr_ [4, 6, 8, 9, 12, 14, 17, 19, 21, 64, 65, 66] [] [] fun κ ξ hκ hξ => ?_
    try simp +decide only [go_sem, hpl, ↓hch, h33, hb12, hb14, c0, hb17, c2, c3, hcl, hcl6, hq8, hq9, hq10, hq11, h25, h8t, h8d, hb19]
    repeat with_reducible refine an_ ?_
    refine hκ _ _ ?_; clear hκ hξ ξ κ
    refine rr_ [4, 6, 8, 9, 12, 14, 17, 19, 64, 65, 66] [] [] fun κ ξ hκ hξ => ?_
    try simp +decide only [go_sem, hpl, ↓hch, h33, hb12, hb14, c0, hb17, c2, c3, hcl, hcl6, hq8, hq9, hq10, hq11, h25, h8t, h8d, hb19]
    repeat with_reducible refine an_ ?_
    refine hκ _ _ ?_; clear hκ hξ ξ κ
    refine rr_ [4, 6, 8, 9, 12, 14, 17, 19, 64, 65, 66] [] [] fun κ ξ hκ hξ => ?_
    try simp +decide only [go_sem, hpl, ↓hch, h33, hb12, hb14, c0, hb17, c2, c3, hcl, hcl6, hq8, hq9, hq10, hq11, h25, h8t, h8d, hb19]
    repeat with_reducible refine an_ ?_
    refine hκ _ _ ?_; clear hκ hξ ξ κ
    refine rnd ?_
    refine sr_ [4, 6, 8, 9, 12, 14, 17, 19, 64, 65, 66, 67] [] [] fun κ ξ hκ hξ => ?_
    try simp +decide only [go_sem, hpl, ↓hch, h33, hb12, hb14, c0, hb17, c2, c3, hcl, hcl6, hq8, hq9, hq10, hq11, h25, h8t, h8d, hb19]
    repeat with_reducible refine an_ ?_
    refine hκ _ _ ?_; clear hκ hξ ξ κ
    refine sq ?_
    refine cdt (by rfl) ?_
    refine sk ?_
    refine sq ?_
    refine bl ?_
    refine sr_ [4, 6, 8, 9, 12, 14, 17, 19, 21, 64, 65, 66] [] [] fun κ ξ hκ hξ => ?_
    try simp +decide only [go_sem, hpl, ↓hch, h33, hb12, hb14, c0, hb17, c2, c3, hcl, hcl6, hq8, hq9, hq10, hq11, h25, h8t, h8d, hb19]
    repeat with_reducible refine an_ ?_
    refine hκ _ _ ?_; clear hκ hξ ξ κ
    refine rr_ [4, 6, 8, 9, 12, 14, 17, 19, 64, 65, 66] [] [] fun κ ξ hκ hξ => ?_
    try simp +decide only [go_sem, hpl, ↓hch, h33, hb12, hb14, c0, hb17, c2, c3, hcl, hcl6, hq8, hq9, hq10, hq11, h25, h8t, h8d, hb19]
    repeat with_reducible refine an_ ?_
    refine hκ _ _ ?_; clear hκ hξ ξ κ
    refine rr_ [4, 6, 8, 9, 12, 14, 17, 19, 64, 65, 66] [] [] fun κ ξ hκ hξ => ?_
    try simp +decide only [go_sem, hpl, ↓hch, h33, hb12, hb14, c0, hb17, c2, c3, hcl, hcl6, hq8, hq9, hq10, hq11, h25, h8t, h8d, hb19]
    repeat with_reducible refine an_ ?_
    refine hκ _ _ ?_; clear hκ hξ ξ κ
    refine rnd ?_
    refine sr_ [4, 6, 8, 9, 12, 14, 17, 19, 64, 65, 66, 67] [] [] fun κ ξ hκ hξ => ?_
    try simp +decide only [go_sem, hpl, ↓hch, h33, hb12, hb14, c0, hb17, c2, c3, hcl, hcl6, hq8, hq9, hq10, hq11, h25, h8t, h8d, hb19]
    repeat with_reducible refine an_ ?_
    refine hκ _ _ ?_; clear hκ hξ ξ κ
    refine sq ?_
    refine cdt (by rfl) ?_
    refine sk ?_
    refine sq ?_
    refine bl ?_
    refine sr_ [4, 6, 8, 9, 12, 14, 17, 19, 21, 64, 65, 66] [] [] fun κ ξ hκ hξ => ?_
    try simp +decide only [go_sem, hpl, ↓hch, h33, hb12, hb14, c0, hb17, c2, c3, hcl, hcl6, hq8, hq9, hq10, hq11, h25, h8t, h8d, hb19]
    repeat with_reducible refine an_ ?_
    refine hκ _ _ ?_; clear hκ hξ ξ κ
    refine rr_ [4, 6, 8, 9, 12, 14, 17, 19, 64, 65, 66] [] [] fun κ ξ hκ hξ => ?_
    try simp +decide only [go_sem, hpl, ↓hch, h33, hb12, hb14, c0, hb17, c2, c3, hcl, hcl6, hq8, hq9, hq10, hq11, h25, h8t, h8d, hb19]
    repeat with_reducible refine an_ ?_
    refine hκ _ _ ?_; clear hκ hξ ξ κ
    refine rr_ [4, 6, 8, 9, 12, 14, 17, 19, 64, 65, 66] [] [] fun κ ξ hκ hξ => ?_
    try simp +decide only [go_sem, hpl, ↓hch, h33, hb12, hb14, c0, hb17, c2, c3, hcl, hcl6, hq8, hq9, hq10, hq11, h25, h8t, h8d, hb19]
    repeat with_reducible refine an_ ?_
    refine hκ _ _ ?_; clear hκ hξ ξ κ
    refine rnd ?_
    refine sr_ [4, 6, 8, 9, 12, 14, 17, 19, 64, 65, 66, 67] [] [] fun κ ξ hκ hξ => ?_
    try simp +decide only [go_sem, hpl, ↓hch, h33, hb12, hb14, c0, hb17, c2, c3, hcl, hcl6, hq8, hq9, hq10, hq11, h25, h8t, h8d, hb19]
    repeat with_reducible refine an_ ?_
    refine hκ _ _ ?_; clear hκ hξ ξ κ
    refine sq ?_
    refine cdf (by rfl) ?_
    refine ex ?_
    refine srd_ [4, 6, 8, 9, 12, 14, 17, 19] [] [78] [] fun κ ξ hκ hξ => ?_
    try simp +decide only [go_sem, hpl, ↓hch, h33, hb12, hb14, c0, hb17, c2, c3, hcl, hcl6, hq8, hq9, hq10, hq11, h25, h8t, h8d, hb19]
    repeat with_reducible refine an_ ?_
    refine ncp (e := 3) (g := false) (sz := 1) (by rfl) (by rfl) (by simp only [go_sem]) ⟨.inr rfl, irow_cell _, by rw [List.length_map, List.length_drop, hpl], by simp only [go_sem, List.length_map, List.length_set, firstS_len]; omega⟩ (st0_put hpl) ?_
    try simp +decide only [go_sem, hpl]
    repeat with_reducible refine an_ ?_
    refine hκ _ _ ?_; clear hκ hξ ξ κ
    refine srz_ [(22, [])] [4, 6, 8, 9, 12, 14, 19, 22] [] [] fun κ ξ hκ hξ => ?_
    try simp +decide only [go_sem, hpl, ↓hch, h33, hb12, hb14, c0, hb17, c2, c3, hcl, hcl6, hq8, hq9, hq10, hq11, h25, h8t, h8d, hb19]
    repeat with_reducible refine an_ ?_
    refine callF (clms_w _ _ _ _ _ _ _ hrs (fun i hi => (hdk i hi).1) (fun i hi k hk => ((hdk i hi).2 k hk).1)) ?_
    try simp +decide only [go_sem, hpl, ↓hch, h33, hb12, hb14, c0, hb17, c2, c3, hcl, hcl6, hq8, hq9, hq10, hq11, h25, h8t, h8d, hb19]
    repeat with_reducible refine an_ ?_
    intro b22 hb22
    try simp +decide only [go_sem, hpl, ↓hch, h33, hb12, hb14, c0, hb17, c2, c3, hcl, hcl6, hq8, hq9, hq10, hq11, h25, h8t, h8d, hb19, hb22]
    repeat with_reducible refine an_ ?_
    refine hκ _ _ ?_; clear hκ hξ ξ κ
    refine sq ?_
    refine sr_ [4, 6, 8, 9, 12, 14, 19, 22, 83, 84, 85] [] [] fun κ ξ hκ hξ => ?_
    try simp +decide only [go_sem, hpl, ↓hch, h33, hb12, hb14, c0, hb17, c2, c3, hcl, hcl6, hq8, hq9, hq10, hq11, h25, h8t, h8d, hb19, hb22]
    repeat with_reducible refine an_ ?_
    refine hκ _ _ ?_; clear hκ hξ ξ κ
    refine bl ?_
    refine lpN 3 ?_
    refine rnd ?_
    refine sr_ [4, 6, 8, 9, 12, 14, 19, 22, 83, 84, 85, 86] [] [] fun κ ξ hκ hξ => ?_
    try simp +decide only [go_sem, hpl, ↓hch, h33, hb12, hb14, c0, hb17, c2, c3, hcl, hcl6, hq8, hq9, hq10, hq11, h25, h8t, h8d, hb19, hb22]
    repeat with_reducible refine an_ ?_
    refine hκ _ _ ?_; clear hκ hξ ξ κ
    refine weak _ (EnvLe.refl _) (σ' := [(b19, _), (b12, _)]) (by first | exact .refl _ | exact .cons _ (.refl _)) ?_
    refine sq ?_
    refine cdt (by rfl) ?_
    refine sk ?_
    refine sq ?_
    refine bl ?_
    refine srz_ [(24, [])] [4, 6, 8, 9, 12, 14, 19, 22, 24, 83, 84, 85] [] [] fun κ ξ hκ hξ => ?_
    try simp +decide only [go_sem, hpl, ↓hch, h33, hb12, hb14, c0, hb17, c2, c3, hcl, hcl6, hq8, hq9, hq10, hq11, h25, h8t, h8d, hb19, hb22]
    repeat with_reducible refine an_ ?_
    intro b24 hb24
    try simp +decide only [go_sem, hpl, ↓hch, h33, hb12, hb14, c0, hb17, c2, c3, hcl, hcl6, hq8, hq9, hq10, hq11, h25, h8t, h8d, hb19, hb22, hb24]
    repeat with_reducible refine an_ ?_
    refine hκ _ _ ?_; clear hκ hξ ξ κ
    refine sr_ [4, 6, 8, 9, 12, 14, 19, 22, 24, 25, 83, 84, 85] [] [] fun κ ξ hκ hξ => ?_
    try simp +decide only [go_sem, hpl, ↓hch, h33, hb12, hb14, c0, hb17, c2, c3, hcl, hcl6, hq8, hq9, hq10, hq11, h25, h8t, h8d, hb19, hb22, hb24]
    repeat with_reducible refine an_ ?_
    refine callF (vars_w _ (by assumption)) ?_
    try simp +decide only [go_sem, hpl, ↓hch, h33, hb12, hb14, c0, hb17, c2, c3, hcl, hcl6, hq8, hq9, hq10, hq11, h25, h8t, h8d, hb19, hb22, hb24]
    repeat with_reducible refine an_ ?_
    intro b25 hb25
    try simp +decide only [go_sem, hpl, ↓hch, h33, hb12, hb14, c0, hb17, c2, c3, hcl, hcl6, hq8, hq9, hq10, hq11, h25, h8t, h8d, hb19, hb22, hb24, hb25]
    repeat with_reducible refine an_ ?_
    refine hκ _ _ ?_; clear hκ hξ ξ κ
    refine sq ?_
    refine sr_ [4, 6, 8, 9, 12, 14, 19, 22, 24, 25, 83, 84, 85, 93] [] [] fun κ ξ hκ hξ => ?_
    try simp +decide only [go_sem, hpl, ↓hch, h33, hb12, hb14, c0, hb17, c2, c3, hcl, hcl6, hq8, hq9, hq10, hq11, h25, h8t, h8d, hb19, hb22, hb24, hb25]
    repeat with_reducible refine an_ ?_
    refine hκ _ _ ?_; clear hκ hξ ξ κ
    refine cd_ (fun c4 => ?_) (fun c4 => ?_)
    ·exfalso
     revert c4
     simp [go_sem]
    ·skip
     refine sk ?_
     refine sr_ [4, 6, 8, 9, 12, 14, 19, 22, 24, 25, 26, 83, 84, 85] [] [] fun κ ξ hκ hξ => ?_
     try simp +decide only [go_sem, hpl, ↓hch, h33, hb12, hb14, c0, hb17, c2, c3, hcl, hcl6, hq8, hq9, hq10, hq11, h25, h8t, h8d, hb19, hb22, hb24, hb25, c4]
     repeat with_reducible refine an_ ?_
     refine hκ _ _ ?_; clear hκ hξ ξ κ
     refine bl ?_
     obtain ⟨T1, hT1⟩ : ∃ T, T = stF d.rules (claimsR d.nodes d.rules x w s lg bx) wd s (par.drop 25) 8 25 (st0 par) := ⟨_, rfl⟩
     refine lp (α := Nat × List Int) (fun z => mk [(4, .int .i64 wd), (6, .el (dorow d)), (8, .el [.int .i64 w, .int .i64 s, .int .i64 lg]), (9, .el (par.map iD)), (12, .ptr b12 0), (14, .el cutL), (19, .ptr b19 0), (22, .el (clD (claimsR d.nodes d.rules x w s lg bx))), (24, .el [.int .i64 25, .int .i64 32]), (25, .ptr b25 0), (26, .int .i64 z.1), (83, .sl 2 [[.int .i64 25, .int .i64 32], [.int .i64 1, .int .i64 24]] .full), (84, .int .i64 2), (85, .int .i64 0)]) (fun z => [(b25, .cells ((par.drop 25).map iD)), (b19, .cells (z.2.map iD)), (b12, .cells (zS.map iD))]) (fun z => 25 ≤ z.1 ∧ z.1 ≤ 33 ∧ z.2.length = 33 ∧ T1 = stF d.rules (claimsR d.nodes d.rules x w s lg bx) wd s (par.drop 25) (33 - z.1) z.1 z.2) (fun z => 33 - z.1) (25, (st0 par)) ⟨⟨by simp only; omega, by simp only; omega, st0_len hpl, hT1⟩, EnvLe.of_eq rfl, .refl _⟩ ?_
     rintro ⟨p, o1⟩ ⟨hlp, hup, hnp, hsp⟩
     simp only at hlp hup hnp hsp
     refine sq ?_
     refine sr_ [4, 6, 8, 9, 12, 14, 19, 22, 24, 25, 26, 83, 84, 85, 101] [] [] fun κ ξ hκ hξ => ?_
     try simp +decide only [go_sem, hpl, ↓hch, h33, hb12, hb14, c0, hb17, c2, c3, hcl, hcl6, hq8, hq9, hq10, hq11, h25, h8t, h8d, hb19, hb22, hb24, hb25, c4, hnp]
     repeat with_reducible refine an_ ?_
     refine hκ _ _ ?_; clear hκ hξ ξ κ
     refine cd_ (fun c5 => ?_) (fun c5 => ?_)
     ·simp only [go_sem] at c5
      have hpi : p < 33 := by omega
      have hcdr := clD_drop (o := (claimsR d.nodes d.rules x w s lg bx)) (p := p) (by rw [hcl]; omega)
      have hcu := cutL_hd hpi
      have hcv := cutL_le hpi
      have hok := claims_ok d.nodes d.rules x w s lg bx p
      refine sk ?_
      refine sq ?_
      refine bl ?_
      refine srz_ [(27, [])] [4, 6, 8, 9, 12, 14, 19, 22, 24, 25, 26, 27, 83, 84, 85] [] [] fun κ ξ hκ hξ => ?_
      try simp +decide only [go_sem, hpl, ↓hch, h33, hb12, hb14, c0, hb17, c2, c3, hcl, hcl6, hq8, hq9, hq10, hq11, h25, h8t, h8d, hb19, hb22, hb24, hb25, c4, hnp, c5, hpi, hcdr, hcu, hcv, Nat.mul_one, Nat.zero_add]
      repeat with_reducible refine an_ ?_
      intro b27 hb27
      try simp +decide only [go_sem, hpl, ↓hch, h33, hb12, hb14, c0, hb17, c2, c3, hcl, hcl6, hq8, hq9, hq10, hq11, h25, h8t, h8d, hb19, hb22, hb24, hb25, c4, hnp, c5, hpi, hcdr, hcu, hcv, Nat.mul_one, Nat.zero_add, hb27]
      repeat with_reducible refine an_ ?_
      refine hκ _ _ ?_; clear hκ hξ ξ κ
      refine sq ?_
      refine sr_ [4, 6, 8, 9, 12, 14, 19, 22, 24, 25, 26, 27, 83, 84, 85, 109] [] [] fun κ ξ hκ hξ => ?_
      try simp +decide only [go_sem, hpl, ↓hch, h33, hb12, hb14, c0, hb17, c2, c3, hcl, hcl6, hq8, hq9, hq10, hq11, h25, h8t, h8d, hb19, hb22, hb24, hb25, c4, hnp, c5, hpi, hcdr, hcu, hcv, Nat.mul_one, Nat.zero_add, hb27]
      repeat with_reducible refine an_ ?_
      refine hκ _ _ ?_; clear hκ hξ ξ κ
      refine cd_ (fun c6 => ?_) (fun c6 => ?_)
      ·simp only [go_sem] at c6
       refine ex ?_
       refine rr_ [4, 6, 8, 9, 12, 14, 19, 22, 24, 25, 26, 83, 84, 85] [] [] fun κ ξ hκ hξ => ?_
       try simp +decide only [go_sem, hpl, ↓hch, h33, hb12, hb14, c0, hb17, c2, c3, hcl, hcl6, hq8, hq9, hq10, hq11, h25, h8t, h8d, hb19, hb22, hb24, hb25, c4, hnp, c5, hpi, hcdr, hcu, hcv, Nat.mul_one, Nat.zero_add, hb27, c6]
       repeat with_reducible refine an_ ?_
       refine hκ _ _ ?_; clear hκ hξ ξ κ
       refine ⟨(p + 1, o1), ⟨⟨by simp only; omega, by simp only; omega, hnp, ?_⟩, by simp only; omega⟩, EnvLe.of_eq (by rw [w64 (n := (p : Int) + 1) (by omega)]; rfl), .refl _⟩
       simp only
       rw [hsp, show 33 - p = (33 - (p + 1)) + 1 by omega, stF, if_neg (by rw [c6]; simp)]
      ·simp only [go_sem] at c6
       obtain ⟨⟨hru0, hru1⟩, hk0, hk1⟩ := hok c6
       obtain ⟨ru, hru⟩ : ∃ ru : Nat, (clat (claimsR d.nodes d.rules x w s lg bx) p).ru = (ru : Int) := ⟨(clat (claimsR d.nodes d.rules x w s lg bx) p).ru.toNat, by omega⟩
       obtain ⟨kk, hkk⟩ : ∃ kk : Nat, (clat (claimsR d.nodes d.rules x w s lg bx) p).k = (kk : Int) := ⟨(clat (claimsR d.nodes d.rules x w s lg bx) p).k.toNat, by omega⟩
       rw [hru, Int.toNat_natCast, hkk] at hk1
       rw [hru] at hru1
       have hce : clE d.rules (clat (claimsR d.nodes d.rules x w s lg bx) p) = (dcat (ruat d.rules ru).decls kk).val := by unfold clE; rw [hru, hkk]; rfl
       have hru2 : (0 : Int) ≤ (ru : Int) := by omega
       have hkk2 : (0 : Int) ≤ (kk : Int) := by omega
       refine sk ?_
       refine srd_ [4, 6, 8, 9, 12, 14, 19, 22, 24, 25, 26, 28, 29, 83, 84, 85] [] [127] [] fun κ ξ hκ hξ => ?_
       try simp +decide only [go_sem, hpl, ↓hch, h33, hb12, hb14, c0, hb17, c2, c3, hcl, hcl6, hq8, hq9, hq10, hq11, h25, h8t, h8d, hb19, hb22, hb24, hb25, c4, hnp, c5, hpi, hcdr, hcu, hcv, Nat.mul_one, Nat.zero_add, hb27, c6, hru, hkk, hru1, hk1, hru2, hkk2]
       repeat with_reducible refine an_ ?_
       refine scallF (ev_w _ _ _ (by assumption) _) ?_
       try simp +decide only [go_sem, hpl, ↓hch, h33, hb12, hb14, c0, hb17, c2, c3, hcl, hcl6, hq8, hq9, hq10, hq11, h25, h8t, h8d, hb19, hb22, hb24, hb25, c4, hnp, c5, hpi, hcdr, hcu, hcv, Nat.mul_one, Nat.zero_add, hb27, c6, hru, hkk, hru1, hk1, hru2, hkk2]
       repeat with_reducible refine an_ ?_
       refine hκ _ _ ?_; clear hκ hξ ξ κ
       refine sq ?_
       refine sr_ [4, 6, 8, 9, 12, 14, 19, 22, 24, 25, 26, 28, 29, 83, 84, 85, 131] [] [] fun κ ξ hκ hξ => ?_
       try simp +decide only [go_sem, hpl, ↓hch, h33, hb12, hb14, c0, hb17, c2, c3, hcl, hcl6, hq8, hq9, hq10, hq11, h25, h8t, h8d, hb19, hb22, hb24, hb25, c4, hnp, c5, hpi, hcdr, hcu, hcv, Nat.mul_one, Nat.zero_add, hb27, c6, hru, hkk, hru1, hk1, hru2, hkk2]
       repeat with_reducible refine an_ ?_
       refine hκ _ _ ?_; clear hκ hξ ξ κ
       refine cd_ (fun c7 => ?_) (fun c7 => ?_)
       ·try simp only [go_sem] at c7
        refine sr_ [12, 13] [] [] fun κ ξ hκ hξ => ?_
        try simp +decide only [go_sem, hpl, ↓hch, h33, hb12, hb14, c0, hb17, c2, c3, hcl, hcl6, hq8, hq9, hq10, hq11, h25, h8t, h8d, hb19, hb22, hb24, hb25, c4, hnp, c5, hpi, hcdr, hcu, hcv, Nat.mul_one, Nat.zero_add, hb27, c6, hru, hkk, hru1, hk1, hru2, hkk2, c7]
        repeat with_reducible refine an_ ?_
        refine hκ _ _ ?_; clear hκ hξ ξ κ
        refine rt ?_
        refine retE ?_
        simp +decide only [go_sem, resD, resV, hpl, ↓hch, h33, hb12, hb14, c0, hb17, c2, c3, hcl, hcl6, hq8, hq9, hq10, hq11, h25, h8t, h8d, hb19, hb22, hb24, hb25, c4, hnp, c5, hpi, hcdr, hcu, hcv, Nat.mul_one, Nat.zero_add, hb27, c6, hru, hkk, hru1, hk1, hru2, hkk2, c7]
        have e1 : T1 = (zS, (evV wd s (List.drop 25 par) (dcat (ruat d.rules ru).decls kk).val).2) := by rw [hsp, show 33 - p = (33 - (p + 1)) + 1 by omega, stF, if_pos c6, hce, if_neg c7]
        have e : styR d.nodes d.rules x w s lg par wd bx = (zS, (evV wd s (List.drop 25 par) (dcat (ruat d.rules ru).decls kk).val).2) := by
         unfold styR
         rw [if_pos ⟨hpb, c2⟩, if_pos c3]
         unfold styI
         rw [← hT1, e1]
         exact if_neg c7
        rw [e]
        first | rfl | exact ⟨rfl, rfl⟩
       ·try simp only [go_sem] at c7
        refine sk ?_
        refine rr_ [4, 6, 8, 9, 12, 14, 19, 22, 24, 25, 26, 83, 84, 85] [] [] fun κ ξ hκ hξ => ?_
        try simp +decide only [go_sem, hpl, ↓hch, h33, hb12, hb14, c0, hb17, c2, c3, hcl, hcl6, hq8, hq9, hq10, hq11, h25, h8t, h8d, hb19, hb22, hb24, hb25, c4, hnp, c5, hpi, hcdr, hcu, hcv, Nat.mul_one, Nat.zero_add, hb27, c6, hru, hkk, hru1, hk1, hru2, hkk2, c7]
        repeat with_reducible refine an_ ?_
        refine cut_call ?_
        try simp +decide only [go_sem, hpl, ↓hch, h33, hb12, hb14, c0, hb17, c2, c3, hcl, hcl6, hq8, hq9, hq10, hq11, h25, h8t, h8d, hb19, hb22, hb24, hb25, c4, hnp, c5, hpi, hcdr, hcu, hcv, Nat.mul_one, Nat.zero_add, hb27, c6, hru, hkk, hru1, hk1, hru2, hkk2, c7]
        repeat with_reducible refine an_ ?_
        refine hκ _ _ ?_; clear hκ hξ ξ κ
        refine rr_ [4, 6, 8, 9, 12, 14, 19, 22, 24, 25, 26, 83, 84, 85] [] [] fun κ ξ hκ hξ => ?_
        try simp +decide only [go_sem, hpl, ↓hch, h33, hb12, hb14, c0, hb17, c2, c3, hcl, hcl6, hq8, hq9, hq10, hq11, h25, h8t, h8d, hb19, hb22, hb24, hb25, c4, hnp, c5, hpi, hcdr, hcu, hcv, Nat.mul_one, Nat.zero_add, hb27, c6, hru, hkk, hru1, hk1, hru2, hkk2, c7]
        repeat with_reducible refine an_ ?_
        refine hκ _ _ ?_; clear hκ hξ ξ κ
        refine ⟨(p + 1, o1.set p (cutV p (evV wd s (par.drop 25) (dcat (ruat d.rules ru).decls kk).val).1)), ⟨⟨by simp only; omega, by simp only; omega, by simpa using hnp, ?_⟩, by simp only; omega⟩, EnvLe.of_eq (by rw [w64 (n := (p : Int) + 1) (by omega)]; rfl), .refl _⟩
        simp only
        rw [hsp, show 33 - p = (33 - (p + 1)) + 1 by omega, stF, if_pos c6, hce, if_pos c7]
     ·simp only [go_sem] at c5
      refine ex ?_
      refine rr_ [4, 6, 8, 9, 12, 14, 19, 22, 83, 84, 85] [] [] fun κ ξ hκ hξ => ?_
      try simp +decide only [go_sem, hpl, ↓hch, h33, hb12, hb14, c0, hb17, c2, c3, hcl, hcl6, hq8, hq9, hq10, hq11, h25, h8t, h8d, hb19, hb22, hb24, hb25, c4, hnp, c5]
      repeat with_reducible refine an_ ?_
      refine hκ _ _ ?_; clear hκ hξ ξ κ
      refine rnd ?_
      refine sr_ [4, 6, 8, 9, 12, 14, 19, 22, 83, 84, 85, 86] [] [] fun κ ξ hκ hξ => ?_
      try simp +decide only [go_sem, hpl, ↓hch, h33, hb12, hb14, c0, hb17, c2, c3, hcl, hcl6, hq8, hq9, hq10, hq11, h25, h8t, h8d, hb19, hb22, hb24, hb25, c4, hnp, c5]
      repeat with_reducible refine an_ ?_
      refine hκ _ _ ?_; clear hκ hξ ξ κ
      refine weak _ (EnvLe.refl _) (σ' := [(b19, _), (b12, _)]) (by first | exact .refl _ | exact .cons _ (.refl _)) ?_
      refine sq ?_
      refine cdt (by rfl) ?_
      refine sk ?_
      refine sq ?_
      refine bl ?_
      refine srz_ [(24, [])] [4, 6, 8, 9, 12, 14, 19, 22, 24, 83, 84, 85] [] [] fun κ ξ hκ hξ => ?_
      try simp +decide only [go_sem, hpl, ↓hch, h33, hb12, hb14, c0, hb17, c2, c3, hcl, hcl6, hq8, hq9, hq10, hq11, h25, h8t, h8d, hb19, hb22, hb24, hb25, c4, hnp, c5]
      repeat with_reducible refine an_ ?_
      intro b24 hb24
      try simp +decide only [go_sem, hpl, ↓hch, h33, hb12, hb14, c0, hb17, c2, c3, hcl, hcl6, hq8, hq9, hq10, hq11, h25, h8t, h8d, hb19, hb22, hb24, hb25, c4, hnp, c5, hb24]
      repeat with_reducible refine an_ ?_
      refine hκ _ _ ?_; clear hκ hξ ξ κ
      refine sr_ [4, 6, 8, 9, 12, 14, 19, 22, 24, 25, 83, 84, 85] [] [] fun κ ξ hκ hξ => ?_
      try simp +decide only [go_sem, hpl, ↓hch, h33, hb12, hb14, c0, hb17, c2, c3, hcl, hcl6, hq8, hq9, hq10, hq11, h25, h8t, h8d, hb19, hb22, hb24, hb25, c4, hnp, c5, hb24]
      repeat with_reducible refine an_ ?_
      refine callF (vars_w _ (by assumption)) ?_
      try simp +decide only [go_sem, hpl, ↓hch, h33, hb12, hb14, c0, hb17, c2, c3, hcl, hcl6, hq8, hq9, hq10, hq11, h25, h8t, h8d, hb19, hb22, hb24, hb25, c4, hnp, c5, hb24]
      repeat with_reducible refine an_ ?_
      intro b25 hb25
      try simp +decide only [go_sem, hpl, ↓hch, h33, hb12, hb14, c0, hb17, c2, c3, hcl, hcl6, hq8, hq9, hq10, hq11, h25, h8t, h8d, hb19, hb22, hb24, hb25, c4, hnp, c5, hb24, hb25]
      repeat with_reducible refine an_ ?_
      refine hκ _ _ ?_; clear hκ hξ ξ κ
      refine sq ?_
      refine sr_ [4, 6, 8, 9, 12, 14, 19, 22, 24, 25, 83, 84, 85, 93] [] [] fun κ ξ hκ hξ => ?_
      try simp +decide only [go_sem, hpl, ↓hch, h33, hb12, hb14, c0, hb17, c2, c3, hcl, hcl6, hq8, hq9, hq10, hq11, h25, h8t, h8d, hb19, hb22, hb24, hb25, c4, hnp, c5, hb24, hb25]
      repeat with_reducible refine an_ ?_
      refine hκ _ _ ?_; clear hκ hξ ξ κ
      refine cd_ (fun c8 => ?_) (fun c8 => ?_)
      ·have o25 : (List.drop 25 o1).length = 8 := by rw [List.length_drop]; omega
       have o8t : (List.drop 25 o1).take 8 = List.drop 25 o1 := List.take_of_length_le (by omega)
       have o33 : o1.take 33 = o1 := List.take_of_length_le (by omega)
       refine rr_ [4, 6, 8, 9, 12, 14, 19, 22, 24, 25, 83, 84, 85] [] [] fun κ ξ hκ hξ => ?_
       try simp +decide only [go_sem, hpl, ↓hch, h33, hb12, hb14, c0, hb17, c2, c3, hcl, hcl6, hq8, hq9, hq10, hq11, h25, h8t, h8d, hb19, hb22, hb24, hb25, c4, hnp, c5, hb24, hb25, c8, o25, o8t, o33]
       repeat with_reducible refine an_ ?_
       refine callF (vars_w _ (by assumption)) ?_
       try simp +decide only [go_sem, hpl, ↓hch, h33, hb12, hb14, c0, hb17, c2, c3, hcl, hcl6, hq8, hq9, hq10, hq11, h25, h8t, h8d, hb19, hb22, hb24, hb25, c4, hnp, c5, hb24, hb25, c8, o25, o8t, o33]
       repeat with_reducible refine an_ ?_
       refine hκ _ _ ?_; clear hκ hξ ξ κ
       refine sr_ [4, 6, 8, 9, 12, 14, 19, 22, 24, 25, 26, 83, 84, 85] [] [] fun κ ξ hκ hξ => ?_
       try simp +decide only [go_sem, hpl, ↓hch, h33, hb12, hb14, c0, hb17, c2, c3, hcl, hcl6, hq8, hq9, hq10, hq11, h25, h8t, h8d, hb19, hb22, hb24, hb25, c4, hnp, c5, hb24, hb25, c8, o25, o8t, o33]
       repeat with_reducible refine an_ ?_
       refine hκ _ _ ?_; clear hκ hξ ξ κ
       refine bl ?_
       obtain ⟨T2, hT2⟩ : ∃ T, T = stF d.rules (claimsR d.nodes d.rules x w s lg bx) wd s (o1.drop 25) 24 1 o1 := ⟨_, rfl⟩
       refine lp (α := Nat × List Int) (fun z => mk [(4, .int .i64 wd), (6, .el (dorow d)), (8, .el [.int .i64 w, .int .i64 s, .int .i64 lg]), (9, .el (par.map iD)), (12, .ptr b12 0), (14, .el cutL), (19, .ptr b19 0), (22, .el (clD (claimsR d.nodes d.rules x w s lg bx))), (24, .el [.int .i64 1, .int .i64 24]), (25, .ptr b25 0), (26, .int .i64 z.1), (83, .sl 2 [[.int .i64 25, .int .i64 32], [.int .i64 1, .int .i64 24]] .full), (84, .int .i64 2), (85, .int .i64 1)]) (fun z => [(b25, .cells ((o1.drop 25).map iD)), (b19, .cells (z.2.map iD)), (b12, .cells (zS.map iD))]) (fun z => 1 ≤ z.1 ∧ z.1 ≤ 25 ∧ z.2.length = 33 ∧ T2 = stF d.rules (claimsR d.nodes d.rules x w s lg bx) wd s (o1.drop 25) (25 - z.1) z.1 z.2) (fun z => 25 - z.1) (1, o1) ⟨⟨by simp only; omega, by simp only; omega, hnp, hT2⟩, EnvLe.of_eq rfl, .refl _⟩ ?_
       rintro ⟨q, o2⟩ ⟨hlq, huq, hnq, hsq⟩
       simp only at hlq huq hnq hsq
       refine sq ?_
       refine sr_ [4, 6, 8, 9, 12, 14, 19, 22, 24, 25, 26, 83, 84, 85, 101] [] [] fun κ ξ hκ hξ => ?_
       try simp +decide only [go_sem, hpl, ↓hch, h33, hb12, hb14, c0, hb17, c2, c3, hcl, hcl6, hq8, hq9, hq10, hq11, h25, h8t, h8d, hb19, hb22, hb24, hb25, c4, hnp, c5, hb24, hb25, c8, o25, o8t, o33, hnq]
       repeat with_reducible refine an_ ?_
       refine hκ _ _ ?_; clear hκ hξ ξ κ
       refine cd_ (fun c9 => ?_) (fun c9 => ?_)
       ·simp only [go_sem] at c9
        have hpi : q < 33 := by omega
        have hcdr := clD_drop (o := (claimsR d.nodes d.rules x w s lg bx)) (p := q) (by rw [hcl]; omega)
        have hcu := cutL_hd hpi
        have hcv := cutL_le hpi
        have hok := claims_ok d.nodes d.rules x w s lg bx q
        refine sk ?_
        refine sq ?_
        refine bl ?_
        refine srz_ [(27, [])] [4, 6, 8, 9, 12, 14, 19, 22, 24, 25, 26, 27, 83, 84, 85] [] [] fun κ ξ hκ hξ => ?_
        try simp +decide only [go_sem, hpl, ↓hch, h33, hb12, hb14, c0, hb17, c2, c3, hcl, hcl6, hq8, hq9, hq10, hq11, h25, h8t, h8d, hb19, hb22, hb24, hb25, c4, hnp, c5, hb24, hb25, c8, o25, o8t, o33, hnq, c9, hpi, hcdr, hcu, hcv, Nat.mul_one, Nat.zero_add]
        repeat with_reducible refine an_ ?_
        intro b27 hb27
        try simp +decide only [go_sem, hpl, ↓hch, h33, hb12, hb14, c0, hb17, c2, c3, hcl, hcl6, hq8, hq9, hq10, hq11, h25, h8t, h8d, hb19, hb22, hb24, hb25, c4, hnp, c5, hb24, hb25, c8, o25, o8t, o33, hnq, c9, hpi, hcdr, hcu, hcv, Nat.mul_one, Nat.zero_add, hb27]
        repeat with_reducible refine an_ ?_
        refine hκ _ _ ?_; clear hκ hξ ξ κ
        refine sq ?_
        refine sr_ [4, 6, 8, 9, 12, 14, 19, 22, 24, 25, 26, 27, 83, 84, 85, 109] [] [] fun κ ξ hκ hξ => ?_
        try simp +decide only [go_sem, hpl, ↓hch, h33, hb12, hb14, c0, hb17, c2, c3, hcl, hcl6, hq8, hq9, hq10, hq11, h25, h8t, h8d, hb19, hb22, hb24, hb25, c4, hnp, c5, hb24, hb25, c8, o25, o8t, o33, hnq, c9, hpi, hcdr, hcu, hcv, Nat.mul_one, Nat.zero_add, hb27]
        repeat with_reducible refine an_ ?_
        refine hκ _ _ ?_; clear hκ hξ ξ κ
        refine cd_ (fun c10 => ?_) (fun c10 => ?_)
        ·simp only [go_sem] at c10
         refine ex ?_
         refine rr_ [4, 6, 8, 9, 12, 14, 19, 22, 24, 25, 26, 83, 84, 85] [] [] fun κ ξ hκ hξ => ?_
         try simp +decide only [go_sem, hpl, ↓hch, h33, hb12, hb14, c0, hb17, c2, c3, hcl, hcl6, hq8, hq9, hq10, hq11, h25, h8t, h8d, hb19, hb22, hb24, hb25, c4, hnp, c5, hb24, hb25, c8, o25, o8t, o33, hnq, c9, hpi, hcdr, hcu, hcv, Nat.mul_one, Nat.zero_add, hb27, c10]
         repeat with_reducible refine an_ ?_
         refine hκ _ _ ?_; clear hκ hξ ξ κ
         refine ⟨(q + 1, o2), ⟨⟨by simp only; omega, by simp only; omega, hnq, ?_⟩, by simp only; omega⟩, EnvLe.of_eq (by rw [w64 (n := (q : Int) + 1) (by omega)]; rfl), .refl _⟩
         simp only
         rw [hsq, show 25 - q = (25 - (q + 1)) + 1 by omega, stF, if_neg (by rw [c10]; simp)]
        ·simp only [go_sem] at c10
         obtain ⟨⟨hru0, hru1⟩, hk0, hk1⟩ := hok c10
         obtain ⟨ru, hru⟩ : ∃ ru : Nat, (clat (claimsR d.nodes d.rules x w s lg bx) q).ru = (ru : Int) := ⟨(clat (claimsR d.nodes d.rules x w s lg bx) q).ru.toNat, by omega⟩
         obtain ⟨kk, hkk⟩ : ∃ kk : Nat, (clat (claimsR d.nodes d.rules x w s lg bx) q).k = (kk : Int) := ⟨(clat (claimsR d.nodes d.rules x w s lg bx) q).k.toNat, by omega⟩
         rw [hru, Int.toNat_natCast, hkk] at hk1
         rw [hru] at hru1
         have hce : clE d.rules (clat (claimsR d.nodes d.rules x w s lg bx) q) = (dcat (ruat d.rules ru).decls kk).val := by unfold clE; rw [hru, hkk]; rfl
         have hru2 : (0 : Int) ≤ (ru : Int) := by omega
         have hkk2 : (0 : Int) ≤ (kk : Int) := by omega
         refine sk ?_
         refine srd_ [4, 6, 8, 9, 12, 14, 19, 22, 24, 25, 26, 28, 29, 83, 84, 85] [] [127] [] fun κ ξ hκ hξ => ?_
         try simp +decide only [go_sem, hpl, ↓hch, h33, hb12, hb14, c0, hb17, c2, c3, hcl, hcl6, hq8, hq9, hq10, hq11, h25, h8t, h8d, hb19, hb22, hb24, hb25, c4, hnp, c5, hb24, hb25, c8, o25, o8t, o33, hnq, c9, hpi, hcdr, hcu, hcv, Nat.mul_one, Nat.zero_add, hb27, c10, hru, hkk, hru1, hk1, hru2, hkk2]
         repeat with_reducible refine an_ ?_
         refine scallF (ev_w _ _ _ (by assumption) _) ?_
         try simp +decide only [go_sem, hpl, ↓hch, h33, hb12, hb14, c0, hb17, c2, c3, hcl, hcl6, hq8, hq9, hq10, hq11, h25, h8t, h8d, hb19, hb22, hb24, hb25, c4, hnp, c5, hb24, hb25, c8, o25, o8t, o33, hnq, c9, hpi, hcdr, hcu, hcv, Nat.mul_one, Nat.zero_add, hb27, c10, hru, hkk, hru1, hk1, hru2, hkk2]
         repeat with_reducible refine an_ ?_
         refine hκ _ _ ?_; clear hκ hξ ξ κ
         refine sq ?_
         refine sr_ [4, 6, 8, 9, 12, 14, 19, 22, 24, 25, 26, 28, 29, 83, 84, 85, 131] [] [] fun κ ξ hκ hξ => ?_
         try simp +decide only [go_sem, hpl, ↓hch, h33, hb12, hb14, c0, hb17, c2, c3, hcl, hcl6, hq8, hq9, hq10, hq11, h25, h8t, h8d, hb19, hb22, hb24, hb25, c4, hnp, c5, hb24, hb25, c8, o25, o8t, o33, hnq, c9, hpi, hcdr, hcu, hcv, Nat.mul_one, Nat.zero_add, hb27, c10, hru, hkk, hru1, hk1, hru2, hkk2]
         repeat with_reducible refine an_ ?_
         refine hκ _ _ ?_; clear hκ hξ ξ κ
         refine cd_ (fun c11 => ?_) (fun c11 => ?_)
         ·try simp only [go_sem] at c11
          refine sr_ [12, 13] [] [] fun κ ξ hκ hξ => ?_
          try simp +decide only [go_sem, hpl, ↓hch, h33, hb12, hb14, c0, hb17, c2, c3, hcl, hcl6, hq8, hq9, hq10, hq11, h25, h8t, h8d, hb19, hb22, hb24, hb25, c4, hnp, c5, hb24, hb25, c8, o25, o8t, o33, hnq, c9, hpi, hcdr, hcu, hcv, Nat.mul_one, Nat.zero_add, hb27, c10, hru, hkk, hru1, hk1, hru2, hkk2, c11]
          repeat with_reducible refine an_ ?_
          refine hκ _ _ ?_; clear hκ hξ ξ κ
          refine rt ?_
          refine retE ?_
          simp +decide only [go_sem, resD, resV, hpl, ↓hch, h33, hb12, hb14, c0, hb17, c2, c3, hcl, hcl6, hq8, hq9, hq10, hq11, h25, h8t, h8d, hb19, hb22, hb24, hb25, c4, hnp, c5, hb24, hb25, c8, o25, o8t, o33, hnq, c9, hpi, hcdr, hcu, hcv, Nat.mul_one, Nat.zero_add, hb27, c10, hru, hkk, hru1, hk1, hru2, hkk2, c11]
          have e1 : T1 = (o1, 0) := by rw [hsp, show 33 - p = 0 by omega, stF]
          have e2 : T2 = (zS, (evV wd s (List.drop 25 o1) (dcat (ruat d.rules ru).decls kk).val).2) := by rw [hsq, show 25 - q = (25 - (q + 1)) + 1 by omega, stF, if_pos c10, hce, if_neg c11]
          have e : styR d.nodes d.rules x w s lg par wd bx = T2 := by
           unfold styR
           rw [if_pos ⟨hpb, c2⟩, if_pos c3]
           unfold styI
           rw [← hT1, e1, hT2]
           exact if_pos rfl
          rw [e, e2]
          first | rfl | exact ⟨rfl, rfl⟩
         ·try simp only [go_sem] at c11
          refine sk ?_
          refine rr_ [4, 6, 8, 9, 12, 14, 19, 22, 24, 25, 26, 83, 84, 85] [] [] fun κ ξ hκ hξ => ?_
          try simp +decide only [go_sem, hpl, ↓hch, h33, hb12, hb14, c0, hb17, c2, c3, hcl, hcl6, hq8, hq9, hq10, hq11, h25, h8t, h8d, hb19, hb22, hb24, hb25, c4, hnp, c5, hb24, hb25, c8, o25, o8t, o33, hnq, c9, hpi, hcdr, hcu, hcv, Nat.mul_one, Nat.zero_add, hb27, c10, hru, hkk, hru1, hk1, hru2, hkk2, c11]
          repeat with_reducible refine an_ ?_
          refine cut_call ?_
          try simp +decide only [go_sem, hpl, ↓hch, h33, hb12, hb14, c0, hb17, c2, c3, hcl, hcl6, hq8, hq9, hq10, hq11, h25, h8t, h8d, hb19, hb22, hb24, hb25, c4, hnp, c5, hb24, hb25, c8, o25, o8t, o33, hnq, c9, hpi, hcdr, hcu, hcv, Nat.mul_one, Nat.zero_add, hb27, c10, hru, hkk, hru1, hk1, hru2, hkk2, c11]
          repeat with_reducible refine an_ ?_
          refine hκ _ _ ?_; clear hκ hξ ξ κ
          refine rr_ [4, 6, 8, 9, 12, 14, 19, 22, 24, 25, 26, 83, 84, 85] [] [] fun κ ξ hκ hξ => ?_
          try simp +decide only [go_sem, hpl, ↓hch, h33, hb12, hb14, c0, hb17, c2, c3, hcl, hcl6, hq8, hq9, hq10, hq11, h25, h8t, h8d, hb19, hb22, hb24, hb25, c4, hnp, c5, hb24, hb25, c8, o25, o8t, o33, hnq, c9, hpi, hcdr, hcu, hcv, Nat.mul_one, Nat.zero_add, hb27, c10, hru, hkk, hru1, hk1, hru2, hkk2, c11]
          repeat with_reducible refine an_ ?_
          refine hκ _ _ ?_; clear hκ hξ ξ κ
          refine ⟨(q + 1, o2.set q (cutV q (evV wd s (o1.drop 25) (dcat (ruat d.rules ru).decls kk).val).1)), ⟨⟨by simp only; omega, by simp only; omega, by simpa using hnq, ?_⟩, by simp only; omega⟩, EnvLe.of_eq (by rw [w64 (n := (q : Int) + 1) (by omega)]; rfl), .refl _⟩
          simp only
          rw [hsq, show 25 - q = (25 - (q + 1)) + 1 by omega, stF, if_pos c10, hce, if_pos c11]
       ·simp only [go_sem] at c9
        have q33 : o2.take 33 = o2 := List.take_of_length_le (by omega)
        refine ex ?_
        refine rr_ [4, 6, 8, 9, 12, 14, 19, 22, 83, 84, 85] [] [] fun κ ξ hκ hξ => ?_
        try simp +decide only [go_sem, hpl, ↓hch, h33, hb12, hb14, c0, hb17, c2, c3, hcl, hcl6, hq8, hq9, hq10, hq11, h25, h8t, h8d, hb19, hb22, hb24, hb25, c4, hnp, c5, hb24, hb25, c8, o25, o8t, o33, hnq, c9, q33, zS_end, Nat.zero_add]
        repeat with_reducible refine an_ ?_
        refine hκ _ _ ?_; clear hκ hξ ξ κ
        refine rnd ?_
        refine sr_ [4, 6, 8, 9, 12, 14, 19, 22, 83, 84, 85, 86] [] [] fun κ ξ hκ hξ => ?_
        try simp +decide only [go_sem, hpl, ↓hch, h33, hb12, hb14, c0, hb17, c2, c3, hcl, hcl6, hq8, hq9, hq10, hq11, h25, h8t, h8d, hb19, hb22, hb24, hb25, c4, hnp, c5, hb24, hb25, c8, o25, o8t, o33, hnq, c9, q33, zS_end, Nat.zero_add]
        repeat with_reducible refine an_ ?_
        refine hκ _ _ ?_; clear hκ hξ ξ κ
        refine weak _ (EnvLe.refl _) (σ' := [(b19, _), (b12, _)]) (by first | exact .refl _ | exact .cons _ (.refl _)) ?_
        refine sq ?_
        refine cdf (by rfl) ?_
        refine ex ?_
        refine sr_ [12, 13] [] [] fun κ ξ hκ hξ => ?_
        try simp +decide only [go_sem, hpl, ↓hch, h33, hb12, hb14, c0, hb17, c2, c3, hcl, hcl6, hq8, hq9, hq10, hq11, h25, h8t, h8d, hb19, hb22, hb24, hb25, c4, hnp, c5, hb24, hb25, c8, o25, o8t, o33, hnq, c9, q33, zS_end, Nat.zero_add]
        repeat with_reducible refine an_ ?_
        refine hκ _ _ ?_; clear hκ hξ ξ κ
        refine rt ?_
        refine retE ?_
        simp +decide only [go_sem, resD, resV, hpl, ↓hch, h33, hb12, hb14, c0, hb17, c2, c3, hcl, hcl6, hq8, hq9, hq10, hq11, h25, h8t, h8d, hb19, hb22, hb24, hb25, c4, hnp, c5, hb24, hb25, c8, o25, o8t, o33, hnq, c9, q33, zS_end, Nat.zero_add]
        have e1 : T1 = (o1, 0) := by rw [hsp, show 33 - p = 0 by omega, stF]
        have e2 : T2 = (o2, 0) := by rw [hsq, show 25 - q = 0 by omega, stF]
        have e : styR d.nodes d.rules x w s lg par wd bx = T2 := by
         unfold styR
         rw [if_pos ⟨hpb, c2⟩, if_pos c3]
         unfold styI
         rw [← hT1, e1, hT2]
         exact if_pos rfl
        rw [e, e2]
      ·exfalso
       revert c8
       simp [go_sem]
end Go.Proofs.YtinhjbnljbmbcaaGreat
/- Plain facts of paths: what is above a node, and lists turned around. -/
namespace Go.Proofs.YtinhjbnljbmbcaaGreat
open Go Go.RowKit
set_option linter.unusedSimpArgs false
set_option linter.unusedVariables false
/-- A list of which the first k and the last k have changed their places. -/
def rv (xs : List Int) (k : Nat) : List Int := (List.range xs.length).map fun p => if p < k ∨ xs.length - k ≤ p then iat xs (xs.length - 1 - p) else iat xs p
theorem rv_len (xs : List Int) (k : Nat) : (rv xs k).length = xs.length := by simp [rv]
theorem rv_at {xs : List Int} {k p : Nat} (h : p < xs.length) : iat (rv xs k) p = if p < k ∨ xs.length - k ≤ p then iat xs (xs.length - 1 - p) else iat xs p := by
 unfold rv
 rw [iat, List.getD_eq_getElem?_getD, List.getElem?_map, List.getElem?_range h]
 rfl
theorem iat_ext {a b : List Int} (hl : a.length = b.length) (h : ∀ j, j < a.length → iat a j = iat b j) : a = b := list_ext (d := 0) hl h
theorem rv_zero (xs : List Int) : rv xs 0 = xs := by
 refine iat_ext (rv_len _ _) fun j hj => ?_
 rw [rv_len] at hj
 rw [rv_at hj, if_neg (by omega)]
theorem iat_set {xs : List Int} {k : Nat} {v : Int} (h : k < xs.length) (j : Nat) : iat (xs.set k v) j = if j = k then v else iat xs j := by
 unfold iat
 simp only [List.getD_eq_getElem?_getD, List.getElem?_set]
 by_cases e : j = k
 ·subst e; simp [h]
 ·rw [if_neg (fun x => e x.symm), if_neg e]
theorem rv_swap {xs : List Int} {k : Nat} (h : k < xs.length - 1 - k) : (((rv xs k).set k (iat (rv xs k) (xs.length - 1 - k))).set (xs.length - 1 - k) (iat (rv xs k) k)) = rv xs (k + 1) := by
 have h1 : k < xs.length := by omega
 have h2 : xs.length - 1 - k < xs.length := by omega
 refine iat_ext (by rw [List.length_set, List.length_set, rv_len, rv_len]) fun j hj => ?_
 rw [List.length_set, List.length_set, rv_len] at hj
 rw [iat_set (by rw [List.length_set, rv_len]; exact h2), iat_set (by rw [rv_len]; exact h1), rv_at hj, rv_at hj, rv_at h1, rv_at h2]
 have e1 : xs.length - 1 - (xs.length - 1 - k) = k := by omega
 rw [if_neg (by omega : ¬ (k < k ∨ xs.length - k ≤ k)), if_neg (by omega : ¬ (xs.length - 1 - k < k ∨ xs.length - k ≤ xs.length - 1 - k))]
 by_cases ha : j = xs.length - 1 - k
 ·subst ha
  rw [if_pos rfl, if_pos (by omega), e1]
 ·rw [if_neg ha]
  by_cases hb : j = k
  ·subst hb
   rw [if_pos rfl, if_pos (by omega)]
  ·rw [if_neg hb]
   by_cases hc : j < k ∨ xs.length - k ≤ j
   ·rw [if_pos hc, if_pos (by omega)]
   ·rw [if_neg hc, if_neg (by omega)]
theorem rv_done {xs : List Int} {k : Nat} (h : ¬ k < xs.length - 1 - k) : rv xs k = xs.reverse := by
 refine iat_ext (by rw [rv_len, List.length_reverse]) fun j hj => ?_
 rw [rv_len] at hj
 have e : iat xs.reverse j = iat xs (xs.length - 1 - j) := by
  unfold iat
  rw [List.getD_eq_getElem?_getD, List.getD_eq_getElem?_getD, List.getElem?_reverse hj]
 rw [rv_at hj, e]
 split
 ·rfl
 ·congr 1; omega
theorem irow_flat : ∀ xs : List Int, (xs.map irow).flatten = xs.map (fun v => D.int .i64 v)
 | [] => rfl
 | a :: xs => by
  have ih := irow_flat xs
  simp only [List.map_cons, List.flatten_cons, ih]
  rfl
theorem irow_drop {xs : List Int} {k : Nat} (h : k < xs.length) : List.drop k (xs.map irow).flatten = .int .i64 (iat xs k) :: List.drop (k + 1) (xs.map irow).flatten := by
 rw [irow_flat, List.drop_eq_getElem_cons (by simpa using h)]
 congr 1
 simp [iat, List.getD_eq_getElem?_getD, h]
theorem irow_set {xs : List Int} {k : Nat} (v : Int) (h : k < xs.length) : (xs.map irow).set k (D.int .i64 v :: List.drop 1 ((xs.map irow).getD k [])) = (xs.set k v).map irow := by
 have e : (xs.map irow).getD k [] = irow (iat xs k) := by simp [iat, List.getD_eq_getElem?_getD, h]
 rw [e, List.map_set]
 rfl
/-- The path of a node: its numbers, the root's first. -/
def upL (l : List Nd) (i : Nat) : List Int := (i :: chn l i).map fun x => (nat l x).id
def pathL (l : List Nd) (i : Nat) : List Int := (upL l i).reverse
theorem upL_len (l : List Nd) (i : Nat) : (upL l i).length = (chn l i).length + 1 := by simp [upL]
theorem upL_take {l : List Nd} {i j x : Nat} (h : (chn l i)[j]? = some x) : (upL l i).take (j + 1 + 1) = (upL l i).take (j + 1) ++ [(nat l x).id] := by
 have e : (upL l i)[j + 1]? = some (nat l x).id := by simp [upL, h]
 rw [List.take_add_one, e]; rfl
theorem upL_tl {l : List Nd} {i j : Nat} (h : j ≤ (chn l i).length) : ((upL l i).take (j + 1)).length = j + 1 := by
 rw [List.length_take, upL_len]; omega
def ptD (rows : List (List D)) (n : Nat) : Option (Nat × Nat) → D
 | none => .sl 1 rows .full
 | some (b, c) => .arr b 1 n c
def ptS (rows : List (List D)) : Option (Nat × Nat) → Store
 | none => []
 | some (b, c) => [(b, .arr 1 rows c)]
theorem nappM_fullT {P : Program} {σ : Store} {ts : Array TypeId} {T U V : TypeId} {g : Bool} {sz by_ n : Nat} {z : List D} {rows new : List (List D)} {tk : Tok} {K : D → Store → Prop}
  (hn : rows.length = n) (hT : ts[0]? = some T) (hV : ts[1]? = some V) (hV' : (sle P V).isSome = true) (hs : sle P T = some (U, g, sz)) (hy : eby P T = some by_) (hz : zc P U = some z)
  (hside : (z.length = sz ∧ 0 < sz ∧ 0 < by_) ∧ rows.all (·.all D.isCell) = true ∧ new.all (·.all D.isCell) = true ∧ new ≠ [] ∧ (n + new.length) * by_ ≤ capB)
  (hK : ∀ b c, b ∉ σ.keys → n + new.length ≤ c → K (.arr b sz (n + new.length) c) ((b, .arr sz (rows ++ new) c) :: σ)) :
  nappM P σ ts (.sl sz rows .full) (.sl sz new tk) K := by
 subst hn
 obtain ⟨⟨hz1, h0, hb0⟩, hr, hc, hne, hfit⟩ := hside
 unfold nappM
 simp only [hT, Option.bind_some, hs, hy, rowsOf]
 exact ⟨⟨⟨z, hz, hz1⟩, ⟨V, hV, .inl hV'⟩, h0, hb0, by simp, hc⟩, ⟨by simp, by simp, hr, hfit⟩, fun e => absurd e hne, fun _ b cap hb hcap => hK b cap hb hcap⟩
theorem nappM_growN {P : Program} {ts : Array TypeId} {T U V : TypeId} {g : Bool} {sz by_ n b0 c0 : Nat} {z : List D} {rows new : List (List D)} {tk : Tok} {K : D → Store → Prop}
  (hn : rows.length = n) (hok : n ≤ c0) (hT : ts[0]? = some T) (hV : ts[1]? = some V) (hV' : (sle P V).isSome = true) (hs : sle P T = some (U, g, sz)) (hy : eby P T = some by_) (hz : zc P U = some z)
  (hside : (z.length = sz ∧ 0 < sz ∧ 0 < by_) ∧ new.all (·.all D.isCell) = true ∧ new ≠ [] ∧ (n + new.length) * by_ ≤ capB)
  (hK : ∀ b c, b ∉ Store.keys [] → n + new.length ≤ c → K (.arr b sz (n + new.length) c) [(b, .arr sz (rows ++ new) c)]) :
  nappM P [(b0, .arr sz rows c0)] ts (.arr b0 sz n c0) (.sl sz new tk) K := by
 subst hn
 exact nappM_grow (o := some (b0, c0)) (ρ := []) hok (apFr_nil _) hT hV hV' hs hy hz hside (fun b c hb h => hK b c hb h)
theorem irow_all (l : List Int) : (l.map irow).all (·.all D.isCell) = true := by
 rw [List.all_map, List.all_eq_true]; intro t _; rfl
end Go.Proofs.YtinhjbnljbmbcaaGreat
/- The walk of a path. Printed by a tool of our own. -/
namespace Go.Proofs.YtinhjbnljbmbcaaGreat
open Go Go.RowKit
set_option linter.unusedSimpArgs false
set_option linter.unusedVariables false
set_option maxHeartbeats 4000000
set_option maxRecDepth 100000
attribute [local go_sem] List.length_map rowAt_n nrow rowAt_t trow rowAt_i irow
attribute [local go_sem] for_put for_put' for_look for_look'
theorem rev_w (xs : List Int) (bx c : Nat) (hx : xs.length ≤ 100000) : RCall Tryz.prog (.func 174) [.arr bx 1 xs.length c] [(bx, .arr 1 (xs.map irow) c)] (fun (_ : Unit) => .tup []) (fun (_ : Unit) => [(bx, .arr 1 (xs.reverse.map irow) c)]) (fun (_ : Unit) => True) := by
 refine fn_ Tryz.func174 (by rfl) (by rfl) (rs := []) (by rfl) (by simp [Tryz.f174]) ?_
 by_cases hx0 : xs.length = 0
 ·have hrv := rv_done (xs := xs) (k := 0) (by omega)
  refine sr_ [0, 2, 3] [] [] fun κ ξ hκ hξ => ?_
  try simp +decide only [go_sem]
  repeat with_reducible refine an_ ?_
  refine ⟨⟨47, rfl, by rw [tf220]; rfl, by omega⟩, ?_⟩
  refine hκ _ _ ?_; clear hκ hξ ξ κ
  refine bl ?_
  refine lp (α := Nat) (fun _ => mk [(0, .arr bx 1 xs.length c), (2, .int .i64 0), (3, .int .i64 (IntKind.wrap .i64 ((xs.length : Int) - 1)))]) (fun _ => [(bx, .arr 1 (xs.map irow) c)]) (fun _ => True) (fun _ => 0) 0 ⟨trivial, EnvLe.of_eq rfl, .refl _⟩ ?_
  intro k _
  refine sq ?_
  refine sr_ [0, 2, 3, 9] [] [] fun κ ξ hκ hξ => ?_
  try simp +decide only [go_sem]
  repeat with_reducible refine an_ ?_
  refine hκ _ _ ?_; clear hκ hξ ξ κ
  refine cd_ (fun c0 => ?_) (fun c0 => ?_)
  ·exfalso
   simp only [go_sem, hx0] at c0
   revert c0
   decide
  ·skip
   refine ex ?_
   rw [show xs.reverse = xs from by rw [← hrv, rv_zero]]
   refine retRn (()) ?_ ?_ ?_
   ·first | exact .refl _ | exact List.nil_sublist _ | exact List.sublist_cons_of_sublist _ (.refl _) | exact ((List.Sublist.refl _).cons _).cons _ | (simp [*]; done) | skip
   ·first | trivial | assumption | omega | (simp; done) | skip
   simp +decide only [go_sem, resD, resV, c0]
   all_goals rfl
 ·have hw0 : IntKind.wrap .i64 ((xs.length : Int) - 1) = ((xs.length - 1 - 0 : Nat) : Int) := by rw [w64 (by omega)]; omega
  refine sr_ [0, 2, 3] [] [] fun κ ξ hκ hξ => ?_
  try simp +decide only [go_sem, hw0]
  repeat with_reducible refine an_ ?_
  refine ⟨⟨47, rfl, by rw [tf220]; rfl, by omega⟩, ?_⟩
  refine hκ _ _ ?_; clear hκ hξ ξ κ
  refine bl ?_
  refine lp (α := Nat) (fun k => mk [(0, .arr bx 1 xs.length c), (2, .int .i64 k), (3, .int .i64 ((xs.length - 1 - k : Nat) : Int))]) (fun k => [(bx, .arr 1 ((rv xs k).map irow) c)]) (fun k => k ≤ xs.length - 1) (fun k => xs.length - 1 - k) 0 ⟨by omega, EnvLe.of_eq rfl, by rw [rv_zero]; exact .refl _⟩ ?_
  intro k hk
  have hrl := rv_len xs k
  refine sq ?_
  refine sr_ [0, 2, 3, 9] [] [] fun κ ξ hκ hξ => ?_
  try simp +decide only [go_sem, hw0]
  repeat with_reducible refine an_ ?_
  refine hκ _ _ ?_; clear hκ hξ ξ κ
  refine cd_ (fun c1 => ?_) (fun c1 => ?_)
  ·simp only [go_sem] at c1
   have hk1 : k < xs.length - 1 - k := by omega
   have hkl : (k : Int) < (xs.length : Int) := by omega
   have hjl : ((xs.length - 1 - k : Nat) : Int) < (xs.length : Int) := by omega
   have hkn : k < xs.length := by omega
   have hjn : xs.length - 1 - k < xs.length := by omega
   have hd1 := irow_drop (xs := rv xs k) (k := k) (by rw [hrl]; omega)
   have hd2 := irow_drop (xs := rv xs k) (k := xs.length - 1 - k) (by rw [hrl]; omega)
   have hs1 := irow_set (xs := rv xs k) (k := k) (iat (rv xs k) (xs.length - 1 - k)) (by rw [hrl]; omega)
   have hs2 := irow_set (xs := (rv xs k).set k (iat (rv xs k) (xs.length - 1 - k))) (k := xs.length - 1 - k) (iat (rv xs k) k) (by rw [List.length_set, hrl]; omega)
   have hsw := rv_swap hk1
   refine sk ?_
   refine sq ?_
   refine bl ?_
   refine rrd_ [0, 2, 3] [] [] [] fun κ ξ hκ hξ => ?_
   try simp +decide only [go_sem, hw0, c1, hd1, hd2, Nat.mul_one, Nat.add_zero, Nat.div_one, Nat.mod_one, hs1, hs2, hsw, hrl, List.length_cons, Nat.le_add_left, List.headD_cons, List.length_set, hkl, hjl, hkn, hjn]
   repeat with_reducible refine an_ ?_
   refine hκ _ _ ?_; clear hκ hξ ξ κ
   refine rr_ [0, 2, 3] [] [] fun κ ξ hκ hξ => ?_
   try simp +decide only [go_sem, hw0, c1, hd1, hd2, Nat.mul_one, Nat.add_zero, Nat.div_one, Nat.mod_one, hs1, hs2, hsw, hrl, List.length_cons, Nat.le_add_left, List.headD_cons, List.length_set, hkl, hjl, hkn, hjn]
   repeat with_reducible refine an_ ?_
   refine hκ _ _ ?_; clear hκ hξ ξ κ
   refine ⟨k + 1, ⟨by omega, by omega⟩, EnvLe.of_eq ?_, ?_⟩
   ·rw [show IntKind.wrap .i64 (((xs.length - 1 - k : Nat) : Int) - 1) = ((xs.length - 1 - (k + 1) : Nat) : Int) by rw [w64 (by omega)]; omega, w64 (by omega)]; rfl
   ·exact .refl _
  ·simp only [go_sem] at c1
   refine ex ?_
   rw [← rv_done (xs := xs) (k := k) (by omega)]
   refine retRn (()) ?_ ?_ ?_
   ·first | exact .refl _ | exact List.nil_sublist _ | exact List.sublist_cons_of_sublist _ (.refl _) | exact ((List.Sublist.refl _).cons _).cons _ | (simp [*]; done) | skip
   ·first | trivial | assumption | omega | (simp; done) | skip
   simp +decide only [go_sem, resD, resV, hw0, c1]
   all_goals rfl
theorem rev1_w (v : Int) (t : Tok) : PCall Tryz.prog (.func 174) [.sl 1 [irow v] t] (.tup []) := by
 refine PCall.le ?_
 refine fn_ Tryz.func174 (by rfl) (by rfl) (rs := []) (by rfl) (by simp [Tryz.f174]) ?_
 refine sr_ [0, 2, 3] [] [] fun κ ξ hκ hξ => ?_
 try simp +decide only [go_sem]
 repeat with_reducible refine an_ ?_
 refine hκ _ _ ?_; clear hκ hξ ξ κ
 refine bl ?_
 refine lp (α := Nat) (fun _ => mk [(0, .sl 1 [irow v] t), (2, .int .i64 0), (3, .int .i64 0)]) (fun _ => []) (fun _ => True) (fun _ => 0) 0 ⟨trivial, EnvLe.of_eq (by rw [show IntKind.wrap .i64 (((1 : Nat) : Int) - 1) = 0 by decide]; rfl), .refl _⟩ ?_
 intro k _
 refine sq ?_
 refine sr_ [0, 2, 3, 9] [] [] fun κ ξ hκ hξ => ?_
 try simp +decide only [go_sem]
 repeat with_reducible refine an_ ?_
 refine hκ _ _ ?_; clear hκ hξ ξ κ
 refine cd_ (fun c0 => ?_) (fun c0 => ?_)
 ·exfalso; revert c0; simp
 ·skip
  refine ex ?_
  refine retEn ?_
  simp +decide only [go_sem, resD, resV, c0]
  all_goals rfl
theorem path_w (l : List Nd) (t : Tok) (i : Nat) (hT : Tree l) (hi : i < l.length) : PCall Tryz.prog (.func 126) [.sl 5 (l.map nrow) t, .int .i64 i] (.sl 1 ((pathL l i).map irow) .no) := by
 have hil : (i : Int) < (l.length : Int) := by omega
 have hl4 := hT.len.2
 have hcl0 := chn_len l i
 have hd30 := hT.deep i hi
 refine PCall.le ?_
 refine fn_ Tryz.func126 (by rfl) (by rfl) (rs := [.tmp 4]) (by rfl) (by simp [Tryz.f126]) ?_
 refine sr_ [0, 1] [] [] fun κ ξ hκ hξ => ?_
 try simp +decide only [go_sem, hil]
 repeat with_reducible refine an_ ?_
 refine hκ _ _ ?_; clear hκ hξ ξ κ
 refine sc ?_
 refine sr_ [0, 1, 5] [] [] fun κ ξ hκ hξ => ?_
 try simp +decide only [go_sem, hil]
 repeat with_reducible refine an_ ?_
 refine hκ _ _ ?_; clear hκ hξ ξ κ
 refine sq ?_
 refine lb ?_
 refine sq ?_
 refine bl ?_
 refine lp (α := Nat × Option (Nat × Nat)) (fun y => mk [(0, .sl 5 (l.map nrow) t), (1, .int .i64 (cur l i y.1 : Nat)), (5, ptD (((upL l i).take (y.1 + 1)).map irow) (y.1 + 1) y.2)]) (fun y => ptS (((upL l i).take (y.1 + 1)).map irow) y.2) (fun y => y.1 ≤ (chn l i).length ∧ (y.2 = none → y.1 = 0) ∧ ∀ b c, y.2 = some (b, c) → y.1 + 1 ≤ c) (fun y => (chn l i).length - y.1) (0, none) ⟨⟨by omega, fun _ => rfl, fun b c h => by cases h⟩, EnvLe.of_eq rfl, .refl _⟩ ?_
 rintro ⟨j, o⟩ ⟨hj, hjn, ho⟩
 simp only at hj hjn ho
 obtain ⟨hcp, hcl⟩ := cur_pix (l := l) (i := i) hj
 have hup := up_pix hT (show cur l i j < l.length by omega)
 have hpz := par_zero hT (show cur l i j < l.length by omega)
 have hcll : (cur l i j : Int) < (l.length : Int) := by omega
 have hutl := upL_tl hj
 refine sq ?_
 rcases o with _ | ⟨bo, co⟩
 ·skip
  refine sr_ [0, 1, 5, 18] [] [] fun κ ξ hκ hξ => ?_
  try simp +decide only [go_sem, hil, hcll, ptD, ptS]
  repeat with_reducible refine an_ ?_
  refine hκ _ _ ?_; clear hκ hξ ξ κ
  refine cd_ (fun c0 => ?_) (fun c0 => ?_)
  ·simp only [go_sem] at c0
   obtain ⟨x, hx, hux⟩ : ∃ x : Nat, (chn l i)[j]? = some x ∧ upc (chn l i) j = (x : Int) := upc_pos (by rw [← hcp]; by_cases h : 0 ≤ pix l (cur l i j); exact h; exact absurd (hpz.2 h) c0)
   have hpx := pix_lt l (cur l i j)
   have hjl := (List.getElem?_eq_some_iff.1 hx).1
   refine sk ?_
   refine bl ?_
   refine sq ?_
   refine sr_ [0, 1, 5, 19, 20] [] [] fun κ ξ hκ hξ => ?_
   try simp +decide only [go_sem, hil, hcll, ptD, ptS, c0]
   repeat with_reducible refine an_ ?_
   refine hκ _ _ ?_; clear hκ hξ ξ κ
   refine bl ?_
   refine lp (α := Nat) (fun k => mk [(0, .sl 5 (l.map nrow) t), (1, .int .i64 (cur l i j : Nat)), (5, ptD (((upL l i).take (j + 1)).map irow) (j + 1) none), (19, .int .i64 (cur l i j : Nat)), (20, .int .i64 k)]) (fun _ => ptS (((upL l i).take (j + 1)).map irow) none) (fun k => k ≤ cur l i j ∧ ∀ q, q < k → (nat l q).id ≠ (nat l (cur l i j)).par) (fun k => cur l i j - k) 0 ⟨⟨by omega, fun q h => by omega⟩, EnvLe.of_eq rfl, .refl _⟩ ?_
   rintro k ⟨hk, hno⟩
   refine sr_ [0, 1, 5, 19, 20, 21] [] [] fun κ ξ hκ hξ => ?_
   try simp +decide only [go_sem, hil, hcll, ptD, ptS, c0]
   repeat with_reducible refine an_ ?_
   refine hκ _ _ ?_; clear hκ hξ ξ κ
   refine sq ?_
   refine cd_ (fun c1 => ?_) (fun c1 => ?_)
   ·simp only [go_sem] at c1
    have hkl : (k : Int) < (l.length : Int) := by omega
    refine sk ?_
    refine sq ?_
    refine bl ?_
    refine sr_ [0, 1, 5, 6, 19, 20] [] [] fun κ ξ hκ hξ => ?_
    try simp +decide only [go_sem, hil, hcll, ptD, ptS, c0, c1, hkl]
    repeat with_reducible refine an_ ?_
    refine hκ _ _ ?_; clear hκ hξ ξ κ
    refine srd_ [0, 1, 5, 6, 19, 20, 33] [] [] [] fun κ ξ hκ hξ => ?_
    try simp +decide only [go_sem, hil, hcll, ptD, ptS, c0, c1, hkl]
    repeat with_reducible refine an_ ?_
    refine hκ _ _ ?_; clear hκ hξ ξ κ
    refine cd_ (fun c2 => ?_) (fun c2 => ?_)
    ·try simp only [go_sem] at c2
     refine sr_ [0, 1, 5] [41] [] fun κ ξ hκ hξ => ?_
     try simp +decide only [go_sem, hil, hcll, ptD, ptS, c0, c1, hkl, c2]
     repeat with_reducible refine an_ ?_
     first
     | refine .inl (nappM_fullT (rows := ((upL l i).take (j + 1)).map irow) (n := j + 1) (by rw [List.length_map, hutl]) rfl rfl (by simp +decide only [go_sem, Option.isSome_some]) tf220 tf221 tf36 (by refine ⟨⟨rfl, by decide, by decide⟩, irow_all _, by simp [D.isCell], by simp, ?_⟩; simp [capB] <;> omega) ?_); intro b41 c41 hb41 hc41
     | refine .inl (nappM_growN (rows := ((upL l i).take (j + 1)).map irow) (n := j + 1) (by rw [List.length_map, hutl]) hco rfl rfl (by simp +decide only [go_sem, Option.isSome_some]) tf220 tf221 tf36 (by refine ⟨⟨rfl, by decide, by decide⟩, by simp [D.isCell], by simp, ?_⟩; simp [capB] <;> omega) ?_); intro b41 c41 hb41 hc41
     try simp +decide only [go_sem, hil, hcll, ptD, ptS, c0, c1, hkl, c2, hb41]
     repeat with_reducible refine an_ ?_
     refine hκ _ _ ?_; clear hκ hξ ξ κ
     refine ex ?_
     have hkx : k = x := by
      have := idx_is (l := l) (x := (nat l (cur l i j)).par) (i := k) (by omega) (by simpa using c2) hno
      omega
     subst hkx
     refine ⟨(j + 1, some (b41, c41)), ⟨⟨by omega, (by intro h; cases h), (by intro b c h; cases h; simp only [List.length_cons, List.length_nil] at hc41; exact hc41)⟩, by simp only; omega⟩, EnvLe.of_eq ?_, ?_⟩
     ·rw [cur_succ hx]; rfl
     ·simp only [ptS, upL_take hx, List.map_append, c2]; exact .refl _
    ·try simp only [go_sem] at c2
     refine sk ?_
     refine rr_ [0, 1, 5, 19, 20] [] [] fun κ ξ hκ hξ => ?_
     try simp +decide only [go_sem, hil, hcll, ptD, ptS, c0, c1, hkl, c2]
     repeat with_reducible refine an_ ?_
     refine hκ _ _ ?_; clear hκ hξ ξ κ
     refine ⟨k + 1, ⟨⟨by omega, fun q hq => ?_⟩, by omega⟩, EnvLe.of_eq (by rw [w64 (by omega)]; rfl), .refl _⟩
     rcases Nat.lt_succ_iff_lt_or_eq.1 hq with h | rfl
     ·exact hno q h
     ·exact (by simpa using c2)
   ·exfalso
    simp only [go_sem] at c1
    rcases idx_cases l (nat l (cur l i j)).par with ⟨y, hy, h1, h2, h3⟩ | ⟨_, h3⟩
    ·exact hno y (by omega) h1
    ·omega
  ·have hje : j = (chn l i).length := by
    have := upc_neg (c := chn l i) (j := j) (by rw [← hcp]; exact hpz.1 (by simpa using c0))
    omega
   have hue : (upL l i).take (j + 1) = upL l i := List.take_of_length_le (by rw [upL_len]; omega)
   have hule : (upL l i).length = j + 1 := by rw [upL_len]; omega
   obtain rfl := hjn rfl
   have hch : chn l i = [] := List.eq_nil_of_length_eq_zero hje.symm
   have hu1 : upL l i = [(nat l i).id] := by unfold upL; rw [hch]; rfl
   refine ex ?_
   refine sr_ [5] [] [] fun κ ξ hκ hξ => ?_
   try simp +decide only [go_sem, hil, hcll, ptD, ptS, c0, hue, hu1, List.map_cons, List.map_nil]
   repeat with_reducible refine an_ ?_
   first
   | refine callF (rev1_w _ _) ?_
   | refine callR (by have h := rev_w (upL l i) bo co (by omega); rw [hule] at h; exact h) fun _ _ => ?_
   try simp +decide only [go_sem, hil, hcll, ptD, ptS, c0, hue, hu1, List.map_cons, List.map_nil]
   repeat with_reducible refine an_ ?_
   refine hκ _ _ ?_; clear hκ hξ ξ κ
   refine sr_ [4] [] [] fun κ ξ hκ hξ => ?_
   try simp +decide only [go_sem, hil, hcll, ptD, ptS, c0, hue, hu1, List.map_cons, List.map_nil]
   repeat with_reducible refine an_ ?_
   refine hκ _ _ ?_; clear hκ hξ ξ κ
   refine rt ?_
   refine retL ?_
   simp +decide only [go_sem, resD, resV, hil, hcll, ptD, ptS, c0, hue, hu1, List.map_cons, List.map_nil]
   have hp : pathL l i = [(nat l i).id] := by unfold pathL; rw [hu1]; rfl
   rw [hp]
   exact DLe.tok _ _ _
 ·have hco := ho bo co rfl
  refine sr_ [0, 1, 5, 18] [] [] fun κ ξ hκ hξ => ?_
  try simp +decide only [go_sem, hil, hcll, ptD, ptS]
  repeat with_reducible refine an_ ?_
  refine hκ _ _ ?_; clear hκ hξ ξ κ
  refine cd_ (fun c3 => ?_) (fun c3 => ?_)
  ·simp only [go_sem] at c3
   obtain ⟨x, hx, hux⟩ : ∃ x : Nat, (chn l i)[j]? = some x ∧ upc (chn l i) j = (x : Int) := upc_pos (by rw [← hcp]; by_cases h : 0 ≤ pix l (cur l i j); exact h; exact absurd (hpz.2 h) c3)
   have hpx := pix_lt l (cur l i j)
   have hjl := (List.getElem?_eq_some_iff.1 hx).1
   refine sk ?_
   refine bl ?_
   refine sq ?_
   refine sr_ [0, 1, 5, 19, 20] [] [] fun κ ξ hκ hξ => ?_
   try simp +decide only [go_sem, hil, hcll, ptD, ptS, c3]
   repeat with_reducible refine an_ ?_
   refine hκ _ _ ?_; clear hκ hξ ξ κ
   refine bl ?_
   refine lp (α := Nat) (fun k => mk [(0, .sl 5 (l.map nrow) t), (1, .int .i64 (cur l i j : Nat)), (5, ptD (((upL l i).take (j + 1)).map irow) (j + 1) (some (bo, co))), (19, .int .i64 (cur l i j : Nat)), (20, .int .i64 k)]) (fun _ => ptS (((upL l i).take (j + 1)).map irow) (some (bo, co))) (fun k => k ≤ cur l i j ∧ ∀ q, q < k → (nat l q).id ≠ (nat l (cur l i j)).par) (fun k => cur l i j - k) 0 ⟨⟨by omega, fun q h => by omega⟩, EnvLe.of_eq rfl, .refl _⟩ ?_
   rintro k ⟨hk, hno⟩
   refine sr_ [0, 1, 5, 19, 20, 21] [] [] fun κ ξ hκ hξ => ?_
   try simp +decide only [go_sem, hil, hcll, ptD, ptS, c3]
   repeat with_reducible refine an_ ?_
   refine hκ _ _ ?_; clear hκ hξ ξ κ
   refine sq ?_
   refine cd_ (fun c4 => ?_) (fun c4 => ?_)
   ·simp only [go_sem] at c4
    have hkl : (k : Int) < (l.length : Int) := by omega
    refine sk ?_
    refine sq ?_
    refine bl ?_
    refine sr_ [0, 1, 5, 6, 19, 20] [] [] fun κ ξ hκ hξ => ?_
    try simp +decide only [go_sem, hil, hcll, ptD, ptS, c3, c4, hkl]
    repeat with_reducible refine an_ ?_
    refine hκ _ _ ?_; clear hκ hξ ξ κ
    refine srd_ [0, 1, 5, 6, 19, 20, 33] [] [] [] fun κ ξ hκ hξ => ?_
    try simp +decide only [go_sem, hil, hcll, ptD, ptS, c3, c4, hkl]
    repeat with_reducible refine an_ ?_
    refine hκ _ _ ?_; clear hκ hξ ξ κ
    refine cd_ (fun c5 => ?_) (fun c5 => ?_)
    ·try simp only [go_sem] at c5
     refine sr_ [0, 1, 5] [41] [] fun κ ξ hκ hξ => ?_
     try simp +decide only [go_sem, hil, hcll, ptD, ptS, c3, c4, hkl, c5]
     repeat with_reducible refine an_ ?_
     first
     | refine .inl (nappM_fullT (rows := ((upL l i).take (j + 1)).map irow) (n := j + 1) (by rw [List.length_map, hutl]) rfl rfl (by simp +decide only [go_sem, Option.isSome_some]) tf220 tf221 tf36 (by refine ⟨⟨rfl, by decide, by decide⟩, irow_all _, by simp [D.isCell], by simp, ?_⟩; simp [capB] <;> omega) ?_); intro b41 c41 hb41 hc41
     | refine .inl (nappM_growN (rows := ((upL l i).take (j + 1)).map irow) (n := j + 1) (by rw [List.length_map, hutl]) hco rfl rfl (by simp +decide only [go_sem, Option.isSome_some]) tf220 tf221 tf36 (by refine ⟨⟨rfl, by decide, by decide⟩, by simp [D.isCell], by simp, ?_⟩; simp [capB] <;> omega) ?_); intro b41 c41 hb41 hc41
     try simp +decide only [go_sem, hil, hcll, ptD, ptS, c3, c4, hkl, c5, hb41]
     repeat with_reducible refine an_ ?_
     refine hκ _ _ ?_; clear hκ hξ ξ κ
     refine ex ?_
     have hkx : k = x := by
      have := idx_is (l := l) (x := (nat l (cur l i j)).par) (i := k) (by omega) (by simpa using c5) hno
      omega
     subst hkx
     refine ⟨(j + 1, some (b41, c41)), ⟨⟨by omega, (by intro h; cases h), (by intro b c h; cases h; simp only [List.length_cons, List.length_nil] at hc41; exact hc41)⟩, by simp only; omega⟩, EnvLe.of_eq ?_, ?_⟩
     ·rw [cur_succ hx]; rfl
     ·simp only [ptS, upL_take hx, List.map_append, c5]; exact .refl _
    ·try simp only [go_sem] at c5
     refine sk ?_
     refine rr_ [0, 1, 5, 19, 20] [] [] fun κ ξ hκ hξ => ?_
     try simp +decide only [go_sem, hil, hcll, ptD, ptS, c3, c4, hkl, c5]
     repeat with_reducible refine an_ ?_
     refine hκ _ _ ?_; clear hκ hξ ξ κ
     refine ⟨k + 1, ⟨⟨by omega, fun q hq => ?_⟩, by omega⟩, EnvLe.of_eq (by rw [w64 (by omega)]; rfl), .refl _⟩
     rcases Nat.lt_succ_iff_lt_or_eq.1 hq with h | rfl
     ·exact hno q h
     ·exact (by simpa using c5)
   ·exfalso
    simp only [go_sem] at c4
    rcases idx_cases l (nat l (cur l i j)).par with ⟨y, hy, h1, h2, h3⟩ | ⟨_, h3⟩
    ·exact hno y (by omega) h1
    ·omega
  ·have hje : j = (chn l i).length := by
    have := upc_neg (c := chn l i) (j := j) (by rw [← hcp]; exact hpz.1 (by simpa using c3))
    omega
   have hue : (upL l i).take (j + 1) = upL l i := List.take_of_length_le (by rw [upL_len]; omega)
   have hule : (upL l i).length = j + 1 := by rw [upL_len]; omega
   refine ex ?_
   refine sr_ [5] [] [] fun κ ξ hκ hξ => ?_
   try simp +decide only [go_sem, hil, hcll, ptD, ptS, c3, hue]
   repeat with_reducible refine an_ ?_
   first
   | refine callF (rev1_w _ _) ?_
   | refine callR (by have h := rev_w (upL l i) bo co (by omega); rw [hule] at h; exact h) fun _ _ => ?_
   try simp +decide only [go_sem, hil, hcll, ptD, ptS, c3, hue]
   repeat with_reducible refine an_ ?_
   refine hκ _ _ ?_; clear hκ hξ ξ κ
   refine sr_ [4] [] [] fun κ ξ hκ hξ => ?_
   try simp +decide only [go_sem, hil, hcll, ptD, ptS, c3, hue]
   repeat with_reducible refine an_ ?_
   refine hκ _ _ ?_; clear hκ hξ ξ κ
   refine fza bo [4] [] (sz := 1) (rows := (upL l i).reverse.map irow) (cap := co) (by simp [Store.get]) ?_
   refine weak (mk [(4, .sl 1 ((pathL l i).map irow) .no)]) (EnvLe.of_l ⟨?_, trivial⟩) (List.nil_sublist _) ?_
   ·have e1 : j + 1 ≤ lim := by unfold lim; omega
    have e2 : List.take (j + 1) ((upL l i).reverse.map irow) = (upL l i).reverse.map irow := List.take_of_length_le (by rw [List.length_map, List.length_reverse, hule]; exact Nat.le_refl _)
    show (if bo = bo ∧ 1 = 1 ∧ j + 1 ≤ ((upL l i).reverse.map irow).length ∧ j + 1 ≤ co ∧ j + 1 ≤ lim then D.sl 1 (((upL l i).reverse.map irow).take (j + 1)) .no else .arr bo 1 (j + 1) co) = _
    rw [if_pos ⟨rfl, rfl, by rw [List.length_map, List.length_reverse, hule]; exact Nat.le_refl _, hco, e1⟩, e2]; rfl
   refine rt ?_
   refine retL ?_
   simp +decide only [go_sem, resD, resV, hil, hcll, ptD, ptS, c3, hue]
   exact DLe.refl _
theorem tpath_w (l : List Nd) (t : Tok) (x : Int) : PCall Tryz.prog (.func 80) [.sl 5 (l.map nrow) t, .int .i64 x] (.tup [if gerr l x = 0 then .sl 1 ((pathL l (idx l x).toNat).map irow) .no else .sl 0 [] .nil, .int .i64 (gerr l x)]) := by
 refine PCall.le ?_
 refine fn_ Tryz.func80 (by rfl) (by rfl) (rs := [.tmp 4, .tmp 5]) (by rfl) (by simp [Tryz.f80]) ?_
 refine sr_ [0, 1] [] [] fun κ ξ hκ hξ => ?_
 try simp +decide only [go_sem]
 repeat with_reducible refine an_ ?_
 refine hκ _ _ ?_; clear hκ hξ ξ κ
 refine sr_ [0, 6, 7] [] [] fun κ ξ hκ hξ => ?_
 try simp +decide only [go_sem]
 repeat with_reducible refine an_ ?_
 refine callF (get_w _ _ _) ?_
 try simp +decide only [go_sem]
 repeat with_reducible refine an_ ?_
 refine hκ _ _ ?_; clear hκ hξ ξ κ
 refine sq ?_
 refine sr_ [0, 6, 7, 15] [] [] fun κ ξ hκ hξ => ?_
 try simp +decide only [go_sem]
 repeat with_reducible refine an_ ?_
 refine hκ _ _ ?_; clear hκ hξ ξ κ
 refine cd_ (fun c0 => ?_) (fun c0 => ?_)
 ·simp only [go_sem] at c0
  refine sr_ [4, 5] [] [] fun κ ξ hκ hξ => ?_
  try simp +decide only [go_sem, c0]
  repeat with_reducible refine an_ ?_
  refine hκ _ _ ?_; clear hκ hξ ξ κ
  refine rt ?_
  refine retE ?_
  simp +decide only [go_sem, resD, resV, c0]
  all_goals simp [c0]
 ·have hg : gerr l x = 0 := by simpa using c0
  obtain ⟨hv, hix⟩ : (treB l && idB x) = true ∧ 0 ≤ idx l x := by
   unfold gerr at hg
   by_cases h1 : (treB l && idB x) = true
   ·by_cases h2 : 0 ≤ idx l x
    ·exact ⟨h1, h2⟩
    ·simp [h1, h2] at hg
   ·simp [h1] at hg
  simp only [Bool.and_eq_true] at hv
  obtain ⟨hv1, hv2⟩ := hv
  have hT := treB_true.1 hv1
  obtain ⟨i, hi⟩ : ∃ i : Nat, idx l x = (i : Int) := ⟨(idx l x).toNat, by omega⟩
  have hil := idx_lt l x
  have hfi : fi l x = (i : Int) := by unfold fi; rw [if_pos hix, hi]
  refine sk ?_
  refine sr_ [4, 5] [] [] fun κ ξ hκ hξ => ?_
  try simp +decide only [go_sem, c0, hv1, hv2, and_self, if_true, hfi, hg]
  repeat with_reducible refine an_ ?_
  refine callF (path_w l t i hT (by omega)) ?_
  try simp +decide only [go_sem, c0, hv1, hv2, and_self, if_true, hfi, hg]
  repeat with_reducible refine an_ ?_
  refine hκ _ _ ?_; clear hκ hξ ξ κ
  refine rt ?_
  refine retE ?_
  simp +decide only [go_sem, resD, resV, c0, hv1, hv2, and_self, if_true, hfi, hg]
  all_goals simp [hg, hi]
end Go.Proofs.YtinhjbnljbmbcaaGreat
/- The walk of the reference's Way. Printed by a tool of our own. -/
namespace Go.Proofs.YtinhjbnljbmbcaaGreat
open Go Go.RowKit
set_option linter.unusedSimpArgs false
set_option linter.unusedVariables false
set_option maxHeartbeats 4000000
set_option maxRecDepth 100000
theorem napp_fullT {P : Program} {σ : Store} {ts : Array TypeId} {T U V : TypeId} {g : Bool} {sz by_ n : Nat} {z : List D} {rows new : List (List D)} {tk : Tok} {K : D → Store → Prop}
  (hn : rows.length = n) (hT : ts[0]? = some T) (hV : ts[1]? = some V) (hV' : (sle P V).isSome = true) (hs : sle P T = some (U, g, sz)) (hy : eby P T = some by_) (hz : zc P U = some z)
  (hside : (z.length = sz ∧ 0 < sz ∧ 0 < by_) ∧ new.all (·.all D.isCell) = true ∧ (n + new.length) * by_ ≤ capB)
  (h0 : new = [] → K (.sl sz rows .full) σ) (hK : ∀ b c, b ∉ σ.keys → K (.sl sz (rows ++ new) (.own b c)) ((b, .tail sz (n + new.length) c) :: σ)) :
  napp P σ ts (.sl sz rows .full) (.sl sz new tk) K := by
 subst hn
 obtain ⟨⟨hz1, hs0, hb0⟩, hc, hfit⟩ := hside
 unfold napp
 simp only [hT, Option.bind_some, hs, hy, rowsOf]
 exact ⟨⟨⟨z, hz, hz1⟩, ⟨V, hV, .inl hV'⟩, hs0, hb0, by simp, by simp, hc, hfit⟩, h0, fun _ b cap hb => hK b cap hb⟩
def wid (l : List Nd) (i j : Nat) : Int := if j ≤ (chn l i).length then (nat l (cur l i j)).id else 0
theorem wid_next {l : List Nd} (hT : Tree l) {i j : Nat} (hi : i < l.length) (hj : j ≤ (chn l i).length) : (nat l (cur l i j)).par = wid l i (j + 1) := by
 obtain ⟨hcp, hcl⟩ := cur_pix (l := l) (i := i) hj
 have hup := up_pix hT (show cur l i j < l.length by omega)
 have hpz := par_zero hT (show cur l i j < l.length by omega)
 unfold wid
 by_cases h : j + 1 ≤ (chn l i).length
 ·rw [if_pos h]
  have e : (chn l i)[j]? = some (chn l i)[j] := List.getElem?_eq_getElem (by omega)
  have hc : pix l (cur l i j) = ((chn l i)[j] : Nat) := by rw [hcp]; simp [upc, e]
  rw [cur_succ e]
  rcases idx_cases l (nat l (cur l i j)).par with ⟨y, hy, h1, _, h3⟩ | ⟨_, h3⟩
  ·have : y = (chn l i)[j] := by omega
   rw [← this, h1]
  ·omega
 ·rw [if_neg h]
  refine hpz.2 ?_
  rw [hcp]
  have : (chn l i)[j]? = none := List.getElem?_eq_none_iff.2 (by omega)
  simp [upc, this]
theorem upL_wid {l : List Nd} {i j : Nat} (hj : j ≤ (chn l i).length) : (((upL l i).take (j + 1)).reverse.map irow) = [.int .i64 (wid l i j)] :: ((upL l i).take j).reverse.map irow := by
 have e : (upL l i)[j]? = some (wid l i j) := by
  unfold upL wid cur
  rw [if_pos hj, List.getElem?_map, List.getD_eq_getElem?_getD]
  have : (i :: chn l i)[j]? = some ((i :: chn l i)[j]'(by simp; omega)) := List.getElem?_eq_getElem (by simp; omega)
  rw [this]; rfl
 rw [List.take_add_one, e]
 simp [irow]
attribute [local go_sem] List.length_map rowAt_n nrow rowAt_t trow rowAt_i irow
attribute [local go_sem] for_put for_put' for_look for_look'
theorem way_w (l : List Nd) (t : Tok) (i : Nat) (hT : Tree l) (hi : i < l.length) : PCall Tryz.prog (.func 25) [.sl 5 (l.map nrow) t, .int .i64 (nat l i).id] (.sl 1 ((pathL l i).map irow) .no) := by
 have hcl0 := chn_len l i
 have hd30 := hT.deep i hi
 have hl4 := hT.len.2
 refine PCall.le ?_
 refine fn_ Tryz.func25 (by rfl) (by rfl) (rs := [.tmp 4]) (by rfl) (by simp [Tryz.f25]) ?_
 refine sr_ [0, 1] [] [] fun κ ξ hκ hξ => ?_
 try simp +decide only [go_sem]
 repeat with_reducible refine an_ ?_
 refine hκ _ _ ?_; clear hκ hξ ξ κ
 refine sr_ [0, 1, 5] [] [] fun κ ξ hκ hξ => ?_
 try simp +decide only [go_sem]
 repeat with_reducible refine an_ ?_
 refine hκ _ _ ?_; clear hκ hξ ξ κ
 refine sq ?_
 refine bl ?_
 refine lp (α := Nat) (fun j => mk [(0, .sl 5 (l.map nrow) t), (1, .int .i64 (wid l i j)), (5, .sl 1 (((upL l i).take j).reverse.map irow) .no)]) (fun _ => []) (fun j => j ≤ (chn l i).length + 1) (fun j => (chn l i).length + 1 - j) 0 ⟨by omega, EnvLe.cons (DLe.refl _) (EnvLe.cons (DLe.refl _) (EnvLe.cons (DLe.nil _ _ _) (EnvLe.of_eq rfl))), .refl _⟩ ?_
 intro j hj
 refine sq ?_
 refine sr_ [0, 1, 5, 7] [] [] fun κ ξ hκ hξ => ?_
 try simp +decide only [go_sem]
 repeat with_reducible refine an_ ?_
 refine hκ _ _ ?_; clear hκ hξ ξ κ
 refine cd_ (fun c0 => ?_) (fun c0 => ?_)
 ·simp only [go_sem] at c0
  have hjl : j ≤ (chn l i).length := by
   rcases Nat.lt_or_ge (chn l i).length j with h | h
   ·exact absurd (by unfold wid; rw [if_neg (by omega)]) c0
   ·exact h
  refine sk ?_
  refine bl ?_
  refine jn (α := Unit) (fun _ => mk [(0, .sl 5 (l.map nrow) t), (1, .int .i64 (wid l i j)), (5, .sl 1 (((upL l i).take (j + 1)).reverse.map irow) .no)]) (fun _ => []) (fun _ => True) ?_ ?_
  ·refine rg [0, 1, 5] [] [] (by kernel_rfl) ?_; intro κ ξ hκ hξ
   try simp +decide only [go_sem, Nat.reduceMul, Nat.reduceAdd, Nat.reduceBEq, cond_false, c0]
   repeat with_reducible refine And.intro (by first | assumption | omega | (simp; done) | (simp; omega) | (intro hg; simp +decide only [go_sem, hg]; done) | (intro hg; simp +decide only [go_sem, hg]; omega)) ?_
   refine napp_fullT (rows := [[.int .i64 (wid l i j)]]) (n := 1) rfl rfl rfl (by simp +decide only [go_sem, Option.isSome_some]) tf220 tf221 tf36 (by refine ⟨⟨rfl, by decide, by decide⟩, ?_, ?_⟩; exact (by rw [List.all_map, List.all_eq_true]; intro t _; rfl); rw [List.length_map, List.length_reverse, List.length_take]; simp [capB]; omega) ?_ ?_
   ·intro h0
    try simp +decide only [go_sem, Nat.reduceMul, Nat.reduceAdd, Nat.reduceBEq, cond_false, c0]
    repeat with_reducible refine And.intro (by first | assumption | omega | (simp; done) | (simp; omega) | (intro hg; simp +decide only [go_sem, hg]; done) | (intro hg; simp +decide only [go_sem, hg]; omega)) ?_
    refine hκ _ _ ?_; clear hκ hξ ξ κ
    exact ⟨(), trivial, EnvLe.cons (DLe.refl _) (EnvLe.cons (DLe.refl _) (EnvLe.cons (by rw [upL_wid hjl, h0]; exact DLe.tok _ _ _) (EnvLe.of_eq rfl))), List.nil_sublist _⟩
   ·intro b11 c11 hb11
    try simp +decide only [go_sem, Nat.reduceMul, Nat.reduceAdd, Nat.reduceBEq, cond_false, c0]
    repeat with_reducible refine And.intro (by first | assumption | omega | (simp; done) | (simp; omega) | (intro hg; simp +decide only [go_sem, hg]; done) | (intro hg; simp +decide only [go_sem, hg]; omega)) ?_
    refine hκ _ _ ?_; clear hκ hξ ξ κ
    exact ⟨(), trivial, EnvLe.cons (DLe.refl _) (EnvLe.cons (DLe.refl _) (EnvLe.cons (by rw [upL_wid hjl]; exact DLe.tok _ _ _) (EnvLe.of_eq rfl))), List.nil_sublist _⟩
  ·rintro _ _
   have hcp := (cur_pix (l := l) (i := i) hjl).2
   have hcl3 : ((cur l i j : Nat) : Int) < (l.length : Int) := by omega
   have hwi : idx l (wid l i j) = ((cur l i j : Nat) : Int) := by unfold wid; rw [if_pos hjl]; exact idx_self hT (by omega)
   have hwn := wid_next hT hi hjl
   have h0c : (0 : Int) ≤ ((cur l i j : Nat) : Int) := by omega
   refine rr_ [0, 1, 5] [] [] fun κ ξ hκ hξ => ?_
   try simp +decide only [go_sem, c0, hwi, hcl3, h0c, Int.toNat_natCast, hwn]
   repeat with_reducible refine an_ ?_
   refine callF (ridx_w _ _ _) ?_
   try simp +decide only [go_sem, c0, hwi, hcl3, h0c, Int.toNat_natCast, hwn]
   repeat with_reducible refine an_ ?_
   refine hκ _ _ ?_; clear hκ hξ ξ κ
   exact ⟨j + 1, ⟨by omega, by omega⟩, EnvLe.of_eq rfl, .refl _⟩
 ·simp only [go_sem] at c0
  have hje : j = (chn l i).length + 1 := by
   rcases Nat.lt_or_ge (chn l i).length j with h | h
   ·omega
   ·have := (fm_id (hT.form (cur l i j) (by have := (cur_pix (l := l) (i := i) h).2; omega))).1
    unfold wid at c0
    rw [if_pos h] at c0
    omega
  have hue : (upL l i).take j = upL l i := List.take_of_length_le (by rw [upL_len]; omega)
  refine ex ?_
  refine sr_ [4] [] [] fun κ ξ hκ hξ => ?_
  try simp +decide only [go_sem, c0, hue]
  repeat with_reducible refine an_ ?_
  refine hκ _ _ ?_; clear hκ hξ ξ κ
  refine rt ?_
  refine retL ?_
  simp +decide only [go_sem, resD, resV, c0, hue]
  exact DLe.refl _
end Go.Proofs.YtinhjbnljbmbcaaGreat
/- Contain, plain: what is known of the nodes of a path. -/
namespace Go.Proofs.YtinhjbnljbmbcaaGreat
open Go Go.RowKit
set_option linter.unusedSimpArgs false
set_option linter.unusedVariables false
set_option maxRecDepth 100000
structure Pl where
 st : List Int
 id : Int
 room : Int
 box : Int
 wide : Int
 own : Bool
 e : Int
def plT (p : Pl) : List D := [.int .i64 p.id, .int .i64 p.room, .int .i64 p.box, .int .i64 p.wide, .bool p.own, .int .i64 p.e]
def plR (p : Pl) : List D := p.st.map iD ++ plT p
def pl0 : Pl := ⟨zS, 0, 0, 0, 0, false, 0⟩
def outV (st : List Int) (room : Int) : Int := mxI (if 0 < iat st 6 then mnI (if iat st 4 = 0 then room else iat st 4) (iat st 6) else if iat st 4 = 0 then room else iat st 4) (iat st 5)
def innV (st : List Int) (room : Int) : Int := mxI 0 (outV st room - 2 * iat st 3)
def kdAt (l : List Nd) (x : Int) : Int := (nat l (idx l x).toNat).kind
def plStep (d : Do) (w s lg : Int) (p : Pl) (x : Int) : Pl := ⟨(styR d.nodes d.rules x w s lg p.st p.room p.wide).1, x, p.room, p.box, p.wide, p.own && decide (kdAt d.nodes x = 1), (styR d.nodes d.rules x w s lg p.st p.room p.wide).2⟩
def plNext (p : Pl) : Pl := if p.own = true then (if iat p.st 21 = 1 then ⟨p.st, p.id, innV p.st p.room, p.id, innV p.st p.room, p.own, p.e⟩ else ⟨p.st, p.id, innV p.st p.room, p.box, p.wide, p.own, p.e⟩) else p
def plSeq (d : Do) (w s lg : Int) : Pl → List Int → List Pl
 | _, [] => []
 | p, x :: xs => plStep d w s lg p x :: if (plStep d w s lg p x).e = 0 then plSeq d w s lg (plNext (plStep d w s lg p x)) xs else []
def plF (w : Int) : Pl := ⟨firstS, 0, w, 0, -1, true, 0⟩
noncomputable def opE (d : Do) (x w s lg : Int) : Int := if docB d = true ∧ rdB w s lg = true ∧ idB x = true then gerr d.nodes x else 1
def pthX (l : List Nd) (x : Int) : List Int := pathL l (idx l x).toNat
def plsX (d : Do) (x w s lg : Int) : List Pl := plSeq d w s lg (plF w) (pthX d.nodes x)
def lastP (l : List Pl) : Pl := l.getLast?.getD pl0
noncomputable def fndR (d : Do) (x w s lg : Int) : Pl × Int := if opE d x w s lg ≠ 0 then (pl0, opE d x w s lg) else if (lastP (plsX d x w s lg)).id ≠ x then (pl0, 3) else (lastP (plsX d x w s lg), 0)
noncomputable def styC (d : Do) (x w s lg : Int) : List Int × Int := if (fndR d x w s lg).2 ≠ 0 then (zS, (fndR d x w s lg).2) else if (fndR d x w s lg).1.e ≠ 0 then (zS, (fndR d x w s lg).1.e) else ((fndR d x w s lg).1.st, 0)
def blkB (d : Do) (x : Int) : Bool := (pthX d.nodes x).all fun y => decide (kdAt d.nodes y = 1)
noncomputable def innC (d : Do) (x w s lg : Int) : Int × Int := if opE d x w s lg ≠ 0 then (0, opE d x w s lg) else if blkB d x = false then (0, 25) else if (fndR d x w s lg).2 ≠ 0 then (0, (fndR d x w s lg).2) else if (fndR d x w s lg).1.e ≠ 0 then (0, (fndR d x w s lg).1.e) else (innV (fndR d x w s lg).1.st (fndR d x w s lg).1.room, 0)
noncomputable def boxC (d : Do) (x w s lg : Int) : Int × Int × Bool × Int := if (fndR d x w s lg).2 ≠ 0 ∨ (fndR d x w s lg).1.box = 0 then (0, 0, false, (fndR d x w s lg).2) else ((fndR d x w s lg).1.box, (fndR d x w s lg).1.wide, true, 0)
/-! ### The cells of a place -/
section
variable {s : List Int} {l : List D}
theorem pl_d33 (h : s.length = 33) : List.drop 33 (s.map iD ++ l) = l := List.drop_left' (by rw [List.length_map, h])
theorem pl_dk (h : s.length = 33) (k : Nat) : List.drop (33 + k) (s.map iD ++ l) = l.drop k := by
 rw [← List.drop_drop, pl_d33 h]
theorem pl_d34 (h : s.length = 33) : List.drop 34 (s.map iD ++ l) = l.drop 1 := pl_dk h 1
theorem pl_d35 (h : s.length = 33) : List.drop 35 (s.map iD ++ l) = l.drop 2 := pl_dk h 2
theorem pl_d36 (h : s.length = 33) : List.drop 36 (s.map iD ++ l) = l.drop 3 := pl_dk h 3
theorem pl_d37 (h : s.length = 33) : List.drop 37 (s.map iD ++ l) = l.drop 4 := pl_dk h 4
theorem pl_d38 (h : s.length = 33) : List.drop 38 (s.map iD ++ l) = l.drop 5 := pl_dk h 5
theorem pl_d39 (h : s.length = 33) : List.drop 39 (s.map iD ++ l) = l.drop 6 := pl_dk h 6
theorem pl_tk (h : s.length = 33) (k : Nat) : List.take (33 + k) (s.map iD ++ l) = s.map iD ++ l.take k := by
 rw [← h, ← List.length_map (f := iD), List.take_length_add_append]
theorem pl_t33 (h : s.length = 33) : List.take 33 (s.map iD ++ l) = s.map iD := by rw [pl_tk h 0, List.take_zero, List.append_nil]
theorem pl_t34 (h : s.length = 33) : List.take 34 (s.map iD ++ l) = s.map iD ++ l.take 1 := pl_tk h 1
theorem pl_t35 (h : s.length = 33) : List.take 35 (s.map iD ++ l) = s.map iD ++ l.take 2 := pl_tk h 2
theorem pl_t36 (h : s.length = 33) : List.take 36 (s.map iD ++ l) = s.map iD ++ l.take 3 := pl_tk h 3
theorem pl_t37 (h : s.length = 33) : List.take 37 (s.map iD ++ l) = s.map iD ++ l.take 4 := pl_tk h 4
theorem pl_t38 (h : s.length = 33) : List.take 38 (s.map iD ++ l) = s.map iD ++ l.take 5 := pl_tk h 5
theorem pl_t39 (h : s.length = 33) : List.take 39 (s.map iD ++ l) = s.map iD ++ l.take 6 := pl_tk h 6
theorem pl_dlt {k : Nat} (h : s.length = 33) (hk : k < 33) : (List.drop k (s.map iD ++ l)).headD .top = .int .i64 (iat s k) := by
 rw [List.drop_append_of_le_length (by rw [List.length_map]; omega), ← List.map_drop]
 have := hd_i (l := s) (k := k) (by omega)
 rw [List.drop_eq_getElem_cons (by omega)] at this ⊢
 exact this
end
section
variable {s : List Int} {l : List D}
theorem pl_ge {k : Nat} (h : s.length = 33) (hk : k < 33) : (1 ≤ (List.drop k (s.map iD ++ l)).length) = True := by
 rw [List.length_drop, List.length_append, List.length_map, h, eq_iff_iff, iff_true]; omega
theorem pl_len (h : s.length = 33) : (s.map iD ++ l).length = 33 + l.length := by rw [List.length_append, List.length_map, h]
theorem pl_all : (s.map iD ++ l).all D.isCell = l.all D.isCell := by rw [List.all_append, iD_all, Bool.true_and]
end
/-- A call of yield beside a box of its own. -/
theorem callYf {P : Program} {y : Fn} {xs : List D} {K X : D → Store → Prop} {σ : Store} {bx : Nat × Box} {Jt Jf : Store → Prop} (h : ACall P y xs σ fun r τ' => (r = .ret (.bool true) ∧ Jt τ') ∨ (r = .ret (.bool false) ∧ Jf τ'))
  (hk : ∀ bb τ', (bb = true → Jt τ') → (bb = false → Jf τ') → K (.bool bb) (bx :: τ')) : CallK P (.fn y [] []) xs K X (bx :: σ) := by
 unfold CallK
 refine ⟨fun _ => rfl, .inr ?_⟩
 rw [List.nil_append, List.append_nil]
 refine (h.frameL [bx]).mono ?_
 rintro r σ' ⟨σ1, rfl, ⟨rfl, hj⟩ | ⟨rfl, hj⟩⟩
 ·exact hk true σ1 (fun _ => hj) (fun e => by cases e)
 ·exact hk false σ1 (fun e => by cases e) (fun _ => hj)
/-! ### What the values of a style are -/
theorem cutV_lim (p : Nat) (n : Int) : -1000000 ≤ cutV p n ∧ cutV p n ≤ 1000000 := by
 have key : ∀ a b : Int, -1000000 ≤ a → a ≤ b → b ≤ 1000000 → -1000000 ≤ mnI (mxI n a) b ∧ mnI (mxI n a) b ≤ 1000000 := fun a b h1 h2 h3 => by
  unfold mnI mxI
  repeat' split
  all_goals omega
 unfold cutV
 have hall : ∀ o ∈ (none :: cutK), (match o with | some (a, b) => decide (-1000000 ≤ a ∧ a ≤ b ∧ b ≤ 1000000) | none => true) = true := by decide
 have hm : cutK.getD p none ∈ (none :: cutK) := by
  rw [List.getD_eq_getElem?_getD]
  cases e : cutK[p]? with
  | none => simp
  | some x => exact List.mem_cons_of_mem _ (List.mem_of_getElem? e)
 have h := hall _ hm
 generalize cutK.getD p none = o at h
 cases o with
 | none => show -1000000 ≤ (if n = 0 then (0 : Int) else 1) ∧ (if n = 0 then (0 : Int) else 1) ≤ 1000000; split <;> omega
 | some ab =>
  have h' := of_decide_eq_true h
  exact key _ _ h'.1 h'.2.1 h'.2.2
theorem parB_iff {st : List Int} : parB st = true ↔ ∀ p, p < 33 → cutV p (iat st p) = iat st p := by
 unfold parB
 rw [List.all_eq_true]
 exact ⟨fun h p hp => of_decide_eq_true (h p (List.mem_range.2 hp)), fun h p hp => decide_eq_true (h p (List.mem_range.1 hp))⟩
theorem parB_lim {st : List Int} (h : parB st = true) (hl : st.length = 33) (p : Nat) : -1000000 ≤ iat st p ∧ iat st p ≤ 1000000 := by
 by_cases hp : p < 33
 ·rw [← parB_iff.1 h p hp]; exact cutV_lim _ _
 ·rw [iat, List.getD_eq_getElem?_getD, List.getElem?_eq_none (by omega)]; simp
theorem iatset {l : List Int} {p q : Nat} {v : Int} : iat (l.set p v) q = if p = q ∧ q < l.length then v else iat l q := by
 unfold iat
 rw [List.getD_eq_getElem?_getD, List.getD_eq_getElem?_getD, List.getElem?_set]
 by_cases h : p = q
 ·subst h
  by_cases h2 : p < l.length
  ·simp [h2]
  ·simp [h2, List.getElem?_eq_none (Nat.le_of_not_lt h2)]
 ·simp [h]
theorem parB_set {st : List Int} (h : parB st = true) (p : Nat) (v : Int) : parB (st.set p (cutV p v)) = true := by
 rw [parB_iff] at h ⊢
 intro q hq
 rw [iatset]
 split
 ·rename_i e; rw [e.1]; exact cutV_idem _ _
 ·exact h q hq
theorem stF_ok {rs : List Ru} {cs : List Cl} {w s : Int} {vs : List Int} : ∀ (n p : Nat) (out : List Int), parB out = true → (stF rs cs w s vs n p out).2 = 0 → parB (stF rs cs w s vs n p out).1 = true
 | 0, _, _, h, _ => h
 | n + 1, p, out, h, he => by
  unfold stF at he ⊢
  split at he
  ·rename_i h1
   rw [if_pos h1]
   split at he
   ·rename_i h2
    rw [if_pos h2]
    exact stF_ok n _ _ (parB_set h _ _) he
   ·rename_i h2; exact absurd he h2
  ·rename_i h1
   rw [if_neg h1]
   exact stF_ok n _ _ h he
theorem firstS_par : parB firstS = true := by decide
theorem st0_iat {par : List Int} (h : par.length = 33) (p : Nat) (hp : p < 33) : iat (st0 par) p = if 25 ≤ p ∨ p = 8 ∨ p = 9 ∨ p = 10 ∨ p = 11 then iat par p else iat firstS p := by
 unfold st0
 have hS : ((((firstS.set 8 (iat par 8)).set 9 (iat par 9)).set 10 (iat par 10)).set 11 (iat par 11)).length = 33 := by simp only [List.length_set, firstS_len]
 have hT : (List.take 25 ((((firstS.set 8 (iat par 8)).set 9 (iat par 9)).set 10 (iat par 10)).set 11 (iat par 11))).length = 25 := by rw [List.length_take, hS]; decide
 by_cases h25 : 25 ≤ p
 ·rw [if_pos (.inl h25), iat, List.getD_eq_getElem?_getD, List.getElem?_append_right (by omega), hT, List.getElem?_drop, show 25 + (p - 25) = p by omega]
  rfl
 ·have e : ∀ S : List Int, S.length = 33 → iat (List.take 25 S ++ par.drop 25) p = iat S p := fun S hS => by
   unfold iat
   rw [List.getD_eq_getElem?_getD, List.getD_eq_getElem?_getD, List.getElem?_append_left (by rw [List.length_take]; omega), List.getElem?_take_of_lt (by omega)]
  rw [e _ hS, iatset, iatset, iatset, iatset]
  simp only [List.length_set, firstS_len]
  by_cases h8 : p = 8
  ·subst h8; simp
  by_cases h9 : p = 9
  ·subst h9; simp
  by_cases h10 : p = 10
  ·subst h10; simp
  by_cases h11 : p = 11
  ·subst h11; simp
  rw [if_neg (by omega), if_neg (by omega), if_neg (by omega), if_neg (by omega), if_neg (by omega)]
theorem st0_par {par : List Int} (h : par.length = 33) (hp : parB par = true) : parB (st0 par) = true := by
 rw [parB_iff]
 intro p hp33
 rw [st0_iat h p hp33]
 split
 ·exact parB_iff.1 hp p hp33
 ·exact parB_iff.1 firstS_par p hp33
theorem styI_ok {rs : List Ru} {cs : List Cl} {w s : Int} {par : List Int} (h : par.length = 33) (hp : parB par = true) (he : (styI rs cs w s par).2 = 0) : parB (styI rs cs w s par).1 = true := by
 unfold styI at he ⊢
 split at he
 ·rename_i h1
  rw [if_pos h1]
  exact stF_ok _ _ _ (stF_ok _ _ _ (st0_par h hp) h1) he
 ·rename_i h1; exact absurd he h1
theorem styR_ok {l : List Nd} {rs : List Ru} {x w s lg : Int} {par : List Int} {wd bx : Int} (h : par.length = 33) (he : (styR l rs x w s lg par wd bx).2 = 0) : parB (styR l rs x w s lg par wd bx).1 = true := by
 unfold styR at he ⊢
 split at he
 ·rename_i h1
  rw [if_pos h1]
  split at he
  ·rename_i h2
   rw [if_pos h2]
   exact styI_ok h h1.1 he
  ·rename_i h2; exact absurd he h2
 ·simp at he
theorem outV_lim {st : List Int} (h : parB st = true) (hl : st.length = 33) {room : Int} (hr : 0 ≤ room ∧ room ≤ 1000000) : -1000000 ≤ outV st room ∧ outV st room ≤ 1000000 := by
 have h4 := parB_lim h hl 4
 have h5 := parB_lim h hl 5
 have h6 := parB_lim h hl 6
 unfold outV mxI mnI
 repeat' split
 all_goals omega
theorem iat_pos {st : List Int} (h : parB st = true) {p : Nat} (hp : p = 3 ∨ p = 4 ∨ p = 5 ∨ p = 6) : 0 ≤ iat st p ∧ iat st p ≤ 100000 := by
 have h1 := parB_iff.1 h p (by omega)
 have key : ∀ n : Int, 0 ≤ mnI (mxI n 0) 100000 ∧ mnI (mxI n 0) 100000 ≤ 100000 := fun n => by
  unfold mnI mxI
  repeat' split
  all_goals omega
 have e : cutV p (iat st p) = mnI (mxI (iat st p) 0) 100000 := by rcases hp with rfl | rfl | rfl | rfl <;> rfl
 rw [← h1, e]
 exact key _
theorem innV_lim {st : List Int} (h : parB st = true) (hl : st.length = 33) {room : Int} (hr : 0 ≤ room ∧ room ≤ 1000000) : 0 ≤ innV st room ∧ innV st room ≤ 1000000 := by
 have h1 := outV_lim h hl hr
 have h3 := iat_pos h (p := 3) (by omega)
 unfold innV mxI
 repeat' split
 all_goals omega
end Go.Proofs.YtinhjbnljbmbcaaGreat

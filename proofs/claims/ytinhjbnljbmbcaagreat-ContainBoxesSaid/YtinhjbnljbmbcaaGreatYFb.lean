/- Contain's laws: the boxes. Printed by a tool of our own. -/
import Derived.Test.YtinhjbnljbmbcaaGreatY14
import Derived.Test.YtinhjbnljbmbcaaGreatYPk
namespace Go.Proofs.YtinhjbnljbmbcaaGreat
open Go Go.RowKit
set_option linter.unusedSimpArgs false
set_option linter.unusedVariables false
set_option maxHeartbeats 4000000
set_option maxRecDepth 100000
attribute [local go_sem] List.length_map rowAt_n nrow rowAt_t trow rowAt_i irow
attribute [local go_sem] rowAt_e rowAt_tm rowAt_dc rowAt_ru tmrow dcrow rurow
attribute [local go_sem] rowAt_br rowAt_s rowAt_fo rowAt_ve rowAt_g rowAt_k grow krow srow brrow forow dorow verow
attribute [local go_sem] iD_all iD_len rw2_0 rw2_1 rw1_0 Int.toNat_one
attribute [local go_sem] pl_d33 pl_d34 pl_d35 pl_d36 pl_d37 pl_d38 pl_d39 pl_t33 pl_t34 pl_t35 pl_t36 pl_t37 pl_t38 pl_t39 pl_dlt pl_ge pl_len pl_all iD_len iD_all plR plT List.append_assoc firstS_len Nat.zero_add Int.reduceToNat
theorem law7_w (d : Do) (which w s lg : Int) : PCall Tryz.prog (.func 7) [.ag (dorow d), .int .u8 which, .ag [.int .i64 w, .int .i64 s, .int .i64 lg]] (.bool true) := by
 refine PCall.ok fun hok => ?_
 simp only [okAll, D.ok, okRows, and_true, true_and, lim_eq, inR_i64', inR_i32', inR_u8', inR_u16', inR_u64'] at hok
 have hwh : 0 ≤ which ∧ which ≤ 255 := by have := hok.2.1; omega
 refine PCall.le ?_
 refine fn_ Tryz.func7 (by rfl) (by rfl) (rs := [.tmp 6]) (by rfl) (by simp [Tryz.f7]) ?_
 refine sr_ [1, 3, 5] [3, 5] [] fun κ ξ hκ hξ => ?_
 try simp +decide only [go_sem, beq_self_eq_true]
 repeat with_reducible refine an_ ?_
 refine hκ _ _ ?_; clear hκ hξ ξ κ
 refine sr_ [1, 3, 5, 7] [] [] fun κ ξ hκ hξ => ?_
 try simp +decide only [go_sem, beq_self_eq_true]
 repeat with_reducible refine an_ ?_
 refine callF (head_w) ?_
 try simp +decide only [go_sem, beq_self_eq_true]
 repeat with_reducible refine an_ ?_
 refine hκ _ _ ?_; clear hκ hξ ξ κ
 refine sq ?_
 refine sr_ [1, 3, 5, 7, 29] [] [] fun κ ξ hκ hξ => ?_
 try simp +decide only [go_sem, beq_self_eq_true]
 repeat with_reducible refine an_ ?_
 refine callF (usb_w _ _ _ _) ?_
 try simp +decide only [go_sem, beq_self_eq_true]
 repeat with_reducible refine an_ ?_
 refine hκ _ _ ?_; clear hκ hξ ξ κ
 refine cd_ (fun c0 => ?_) (fun c0 => ?_)
 ·simp only [go_sem] at c0
  refine sr_ [6] [] [] fun κ ξ hκ hξ => ?_
  try simp +decide only [go_sem, beq_self_eq_true, c0]
  repeat with_reducible refine an_ ?_
  refine hκ _ _ ?_; clear hκ hξ ξ κ
  refine rt ?_
  refine retE ?_
  simp +decide only [go_sem, resD, resV, beq_self_eq_true, c0]
  all_goals first | rfl | (congr 1; rcases hbf with h | h | h <;> simp [h]; done) | (simp [*]; done)
 ·simp only [go_sem] at c0
  have c0x := c0
  obtain ⟨⟨hfew, hd⟩, hr⟩ := c0x
  have hT := treB_true.1 (docB_tre hd).1
  have hl1 := hT.len.1
  have hl4 := hT.len.2
  obtain ⟨i, hk, hi⟩ := which_at hwh hl1
  have hi3 : (i : Int) < (d.nodes.length : Int) := by omega
  have hl0 : (d.nodes.length : Int) ≠ 0 := by omega
  have h0i : (0 : Int) ≤ (i : Int) := by omega
  refine sk ?_
  refine srd_ [3, 5, 7, 8] [] [] [] fun κ ξ hκ hξ => ?_
  try simp +decide only [go_sem, beq_self_eq_true, c0, hk, hi3, hl0, h0i]
  repeat with_reducible refine an_ ?_
  refine hκ _ _ ?_; clear hκ hξ ξ κ
  refine sr_ [3, 5, 7, 8, 9, 10, 11, 12] [] [] fun κ ξ hκ hξ => ?_
  try simp +decide only [go_sem, beq_self_eq_true, c0, hk, hi3, hl0, h0i]
  repeat with_reducible refine an_ ?_
  refine callF (box_w _ _ _ _ _) ?_
  try simp +decide only [go_sem, beq_self_eq_true, c0, hk, hi3, hl0, h0i]
  repeat with_reducible refine an_ ?_
  refine hκ _ _ ?_; clear hκ hξ ξ κ
  refine sq ?_
  refine sr_ [3, 5, 7, 8, 9, 10, 11, 12, 52] [] [] fun κ ξ hκ hξ => ?_
  try simp +decide only [go_sem, beq_self_eq_true, c0, hk, hi3, hl0, h0i]
  repeat with_reducible refine an_ ?_
  refine hκ _ _ ?_; clear hκ hξ ξ κ
  refine cd_ (fun c1 => ?_) (fun c1 => ?_)
  ·simp only [go_sem] at c1
   have hbb := box_bad hd hr hi c1
   refine sr_ [6] [] [(1, 54), (5, 58), (9, 62), (13, 66)] fun κ ξ hκ hξ => ?_
   try simp +decide only [go_sem, beq_self_eq_true, c0, hk, hi3, hl0, h0i, c1, hbb]
   repeat with_reducible refine an_ ?_
   refine hκ _ _ ?_; clear hκ hξ ξ κ
   refine rt ?_
   refine retE ?_
   simp +decide only [go_sem, resD, resV, beq_self_eq_true, c0, hk, hi3, hl0, h0i, c1, hbb]
   all_goals first | rfl | (congr 1; rcases hbf with h | h | h <;> simp [h]; done) | (simp [*]; done)
  ·simp only [go_sem] at c1
   have h2 := box_ok hd hr hi c1
   have hbv := box_val h2
   have hul := upC_len d.nodes i
   have hcle := chn_len d.nodes i
   have hd30 := hT.deep i hi
   have hscl := styC_len d (nat d.nodes i).id w s lg
   have hs33 : List.take 33 (styC d (nat d.nodes i).id w s lg).1 = (styC d (nat d.nodes i).id w s lg).1 := List.take_of_length_le (by first | omega | (rw [styC_len]; omega) | (rw [styR_len (by assumption)]; omega))
   refine sk ?_
   refine sr_ [3, 5, 7, 8, 9, 10, 11, 13] [] [] fun κ ξ hκ hξ => ?_
   try simp +decide only [go_sem, beq_self_eq_true, c0, hk, hi3, hl0, h0i, c1, hscl, hs33]
   repeat with_reducible refine an_ ?_
   refine hκ _ _ ?_; clear hκ hξ ξ κ
   refine sr_ [3, 5, 7, 8, 9, 10, 11, 13, 14] [] [] fun κ ξ hκ hξ => ?_
   try simp +decide only [go_sem, beq_self_eq_true, c0, hk, hi3, hl0, h0i, c1, hscl, hs33]
   repeat with_reducible refine an_ ?_
   refine hκ _ _ ?_; clear hκ hξ ξ κ
   refine sq ?_
   refine sr_ [3, 5, 7, 8, 9, 10, 11, 13, 14, 73, 74, 75] [] [] fun κ ξ hκ hξ => ?_
   try simp +decide only [go_sem, beq_self_eq_true, c0, hk, hi3, hl0, h0i, c1, hscl, hs33]
   repeat with_reducible refine an_ ?_
   refine callF (abo_w _ _ i hT hi) ?_
   try simp +decide only [go_sem, beq_self_eq_true, c0, hk, hi3, hl0, h0i, c1, hscl, hs33]
   repeat with_reducible refine an_ ?_
   refine hκ _ _ ?_; clear hκ hξ ξ κ
   refine bl ?_
   refine lp (α := Nat × Bool) (fun z => mk [(3, .el (dorow d)), (5, .el [.int .i64 w, .int .i64 s, .int .i64 lg]), (7, .bool true), (8, .int .i64 (nat d.nodes i).id), (9, .int .i64 (boxC d (nat d.nodes i).id w s lg).1), (10, .int .i64 (boxC d (nat d.nodes i).id w s lg).2.1), (11, .bool (boxC d (nat d.nodes i).id w s lg).2.2.1), (13, .bool z.2), (14, .bool (((chn d.nodes i).take z.1).any (hideB d w s lg))), (73, .sl 1 ((upC d.nodes i).map irow) .no), (74, .int .i64 (upC d.nodes i).length), (75, .int .i64 z.1)]) (fun _ => []) (fun z => z.1 ≤ (upC d.nodes i).length ∧ (z.2 = false → (fndR d (nat d.nodes i).id w s lg).1.box = (fndR d (nat d.nodes (cur d.nodes i z.1)).id w s lg).1.box ∧ (fndR d (nat d.nodes i).id w s lg).1.wide = (fndR d (nat d.nodes (cur d.nodes i z.1)).id w s lg).1.wide) ∧ (z.2 = true → (boxC d (nat d.nodes i).id w s lg).2.2.1 = true)) (fun z => (upC d.nodes i).length - z.1) (0, false) ⟨⟨by simp only; omega, fun _ => ⟨rfl, rfl⟩, (fun h => by cases h)⟩, EnvLe.of_eq rfl, .refl _⟩ ?_
   rintro ⟨m, sn⟩ ⟨hm, hs1, hs2⟩
   simp only at hm hs1 hs2
   refine sr_ [3, 5, 7, 8, 9, 10, 11, 13, 14, 73, 74, 75, 76] [] [] fun κ ξ hκ hξ => ?_
   try simp +decide only [go_sem, beq_self_eq_true, c0, hk, hi3, hl0, h0i, c1, hscl, hs33]
   repeat with_reducible refine an_ ?_
   refine hκ _ _ ?_; clear hκ hξ ξ κ
   refine sq ?_
   refine cd_ (fun c2 => ?_) (fun c2 => ?_)
   ·simp only [go_sem] at c2
    have hc0 := (show m < (chn d.nodes i).length by have := upC_len d.nodes i; omega)
    obtain ⟨c, hc⟩ : ∃ c, (chn d.nodes i)[m]? = some c := ⟨_, List.getElem?_eq_getElem hc0⟩
    have hcl : c < d.nodes.length := by have := chn_mem (List.mem_of_getElem? hc); omega
    have hux : iat (upC d.nodes i) m = (nat d.nodes c).id := by
     unfold upC iat
     rw [List.getD_eq_getElem?_getD, List.getElem?_map, hc]; rfl
    obtain ⟨hcu, hc2, hce, hcg, hcF⟩ := cur_up hd hr hi h2 hc
    have hsc := styC_of hd hr hcl hc2
    rw [hce] at hsc
    have hfl := fnd_len d (nat d.nodes c).id w s lg
    have hq21 : (List.map iD (List.drop 21 (fndR d (nat d.nodes c).id w s lg).1.st)).headD .top = .int .i64 (iat (fndR d (nat d.nodes c).id w s lg).1.st 21) := hd_i (by omega)
    have hz21 : 1 ≤ (List.drop 21 (fndR d (nat d.nodes c).id w s lg).1.st).length := by rw [List.length_drop]; omega
    have hq24 : (List.map iD (List.drop 24 (fndR d (nat d.nodes c).id w s lg).1.st)).headD .top = .int .i64 (iat (fndR d (nat d.nodes c).id w s lg).1.st 24) := hd_i (by omega)
    have hz24 : 1 ≤ (List.drop 24 (fndR d (nat d.nodes c).id w s lg).1.st).length := by rw [List.length_drop]; omega
    have hf33 : List.take 33 (fndR d (nat d.nodes c).id w s lg).1.st = (fndR d (nat d.nodes c).id w s lg).1.st := List.take_of_length_le (by first | omega | (rw [styC_len]; omega) | (rw [styR_len (by assumption)]; omega))
    have hta : ((chn d.nodes i).take (m + 1)).any (hideB d w s lg) = (((chn d.nodes i).take m).any (hideB d w s lg) || decide (iat (fndR d (nat d.nodes c).id w s lg).1.st 24 = 1)) := take_any hc
    refine sk ?_
    refine sq ?_
    refine bl ?_
    refine sr_ [3, 5, 7, 8, 9, 10, 11, 13, 14, 16, 73, 74, 75] [] [] fun κ ξ hκ hξ => ?_
    try simp +decide only [go_sem, beq_self_eq_true, c0, hk, hi3, hl0, h0i, c1, hscl, hs33, c2, hux, hsc, hfl, hf33, hq21, hz21, hq24, hz24]
    repeat with_reducible refine an_ ?_
    refine hκ _ _ ?_; clear hκ hξ ξ κ
    refine srz_ [(17, [])] [3, 5, 7, 8, 9, 10, 11, 13, 14, 16, 17, 18, 73, 74, 75] [] [] fun κ ξ hκ hξ => ?_
    try simp +decide only [go_sem, beq_self_eq_true, c0, hk, hi3, hl0, h0i, c1, hscl, hs33, c2, hux, hsc, hfl, hf33, hq21, hz21, hq24, hz24]
    repeat with_reducible refine an_ ?_
    refine callF (cst_w _ _ _ _ _) ?_
    try simp +decide only [go_sem, beq_self_eq_true, c0, hk, hi3, hl0, h0i, c1, hscl, hs33, c2, hux, hsc, hfl, hf33, hq21, hz21, hq24, hz24]
    repeat with_reducible refine an_ ?_
    intro b17 hb17
    try simp +decide only [go_sem, beq_self_eq_true, c0, hk, hi3, hl0, h0i, c1, hscl, hs33, c2, hux, hsc, hfl, hf33, hq21, hz21, hq24, hz24, hb17]
    repeat with_reducible refine an_ ?_
    refine hκ _ _ ?_; clear hκ hξ ξ κ
    refine sr_ [3, 5, 7, 8, 9, 10, 11, 13, 14, 16, 17, 18, 19, 20, 73, 74, 75] [] [] fun κ ξ hκ hξ => ?_
    try simp +decide only [go_sem, beq_self_eq_true, c0, hk, hi3, hl0, h0i, c1, hscl, hs33, c2, hux, hsc, hfl, hf33, hq21, hz21, hq24, hz24, hb17]
    repeat with_reducible refine an_ ?_
    refine callF (inr_w _ _ _ _ _) ?_
    try simp +decide only [go_sem, beq_self_eq_true, c0, hk, hi3, hl0, h0i, c1, hscl, hs33, c2, hux, hsc, hfl, hf33, hq21, hz21, hq24, hz24, hb17]
    repeat with_reducible refine an_ ?_
    refine hκ _ _ ?_; clear hκ hξ ξ κ
    refine sq ?_
    refine sr_ [3, 5, 7, 8, 9, 10, 11, 13, 14, 16, 17, 19, 20, 73, 74, 75, 94] [] [] fun κ ξ hκ hξ => ?_
    try simp +decide only [go_sem, beq_self_eq_true, c0, hk, hi3, hl0, h0i, c1, hscl, hs33, c2, hux, hsc, hfl, hf33, hq21, hz21, hq24, hz24, hb17]
    repeat with_reducible refine an_ ?_
    refine hκ _ _ ?_; clear hκ hξ ξ κ
    refine cd_ (fun c3 => ?_) (fun c3 => ?_)
    ·exfalso
     simp only [go_sem] at c3
    ·skip
     refine sk ?_
     refine sr_ [3, 5, 7, 8, 9, 10, 11, 13, 14, 16, 17, 19, 20, 73, 74, 75] [] [(1, 96)] fun κ ξ hκ hξ => ?_
     try simp +decide only [go_sem, beq_self_eq_true, c0, hk, hi3, hl0, h0i, c1, hscl, hs33, c2, hux, hsc, hfl, hf33, hq21, hz21, hq24, hz24, hb17, c3]
     repeat with_reducible refine an_ ?_
     refine hκ _ _ ?_; clear hκ hξ ξ κ
     refine sq ?_
     refine sr_ [3, 5, 7, 8, 9, 10, 11, 13, 14, 16, 19, 73, 74, 75, 110] [] [(1, 102), (5, 106)] fun κ ξ hκ hξ => ?_
     try simp +decide only [go_sem, beq_self_eq_true, c0, hk, hi3, hl0, h0i, c1, hscl, hs33, c2, hux, hsc, hfl, hf33, hq21, hz21, hq24, hz24, hb17, c3]
     repeat with_reducible refine an_ ?_
     refine hκ _ _ ?_; clear hκ hξ ξ κ
     refine cd_ (fun c4 => ?_) (fun c4 => ?_)
     ·simp only [go_sem] at c4
      refine ex ?_
      refine rr_ [3, 5, 7, 8, 9, 10, 11, 13, 14, 73, 74, 75] [] [] fun κ ξ hκ hξ => ?_
      try simp +decide only [go_sem, beq_self_eq_true, c0, hk, hi3, hl0, h0i, c1, hscl, hs33, c2, hux, hsc, hfl, hf33, hq21, hz21, hq24, hz24, hb17, c3, c4]
      repeat with_reducible refine an_ ?_
      refine hκ _ _ ?_; clear hκ hξ ξ κ
      refine ⟨(m + 1, sn), ⟨⟨by simp only; omega, fun h => ?_, hs2⟩, by simp only; omega⟩, EnvLe.of_eq ?_, .refl _⟩
      ·have hb1 := hs1 h
       rw [hcF] at hb1
       simp only
       rw [hcu]
       have hnb := next_box (p := (fndR d (nat d.nodes c).id w s lg).1) (fun hh => by
         have hb : blkB d (nat d.nodes c).id = true := hcg.own.symm.trans hh.1
         have h0 : (innC d (nat d.nodes c).id w s lg).2 = 0 := by rw [innC_of hd hr hcl hb hc2 hce]
         rcases c4 with (cx | cx) | cx
         · rw [show sn = false from h] at cx; cases cx
         · exact cx h0
         · exact cx hh.2)
       exact ⟨hb1.1.trans hnb.1, hb1.2.trans hnb.2⟩
      ·rw [w64 (n := (m : Int) + 1) (by omega), hta]; rfl
     ·simp only [go_sem] at c4
      obtain ⟨⟨hsn, hg0⟩, h21⟩ := (show (sn = false ∧ (innC d (nat d.nodes c).id w s lg).2 = 0) ∧ iat (fndR d (nat d.nodes c).id w s lg).1.st 21 = 1 from c4)
      have hown := hcg.own.trans (innC_ok hd hr hcl hg0).1
      have hnx := next_own hown h21
      have hb1 := hs1 hsn
      rw [hcF] at hb1
      have hbi : (fndR d (nat d.nodes i).id w s lg).1.box = (nat d.nodes c).id := hb1.1.trans (hnx.1.trans (fnd_ok hc2).2.2.1)
      have hne : (fndR d (nat d.nodes i).id w s lg).1.box ≠ 0 := by rw [hbi]; exact id_pos hT hcl
      have hfo : (boxC d (nat d.nodes i).id w s lg).2.2.1 = true := by rw [hbv.1]; exact decide_eq_true hne
      have hdx : decide ((boxC d (nat d.nodes i).id w s lg).1 = (nat d.nodes c).id) = true := decide_eq_true ((hbv.2 hne).1.trans hbi)
      have hdw : decide ((boxC d (nat d.nodes i).id w s lg).2.1 = (innC d (nat d.nodes c).id w s lg).1) = true := decide_eq_true ((hbv.2 hne).2.trans (hb1.2.trans (hnx.2.trans (by rw [innC_of hd hr hcl (innC_ok hd hr hcl hg0).1 hc2 hce]))))
      refine sk ?_
      refine sr_ [3, 5, 7, 8, 9, 10, 11, 13, 14, 16, 19, 73, 74, 75] [] [] fun κ ξ hκ hξ => ?_
      try simp +decide only [go_sem, beq_self_eq_true, c0, hk, hi3, hl0, h0i, c1, hscl, hs33, c2, hux, hsc, hfl, hf33, hq21, hz21, hq24, hz24, hb17, c3, c4, hdx, hdw, hfo]
      repeat with_reducible refine an_ ?_
      refine hκ _ _ ?_; clear hκ hξ ξ κ
      refine rr_ [3, 5, 7, 8, 9, 10, 11, 13, 14, 73, 74, 75] [] [(1, 112), (4, 115), (9, 120)] fun κ ξ hκ hξ => ?_
      try simp +decide only [go_sem, beq_self_eq_true, c0, hk, hi3, hl0, h0i, c1, hscl, hs33, c2, hux, hsc, hfl, hf33, hq21, hz21, hq24, hz24, hb17, c3, c4, hdx, hdw, hfo]
      repeat with_reducible refine an_ ?_
      refine hκ _ _ ?_; clear hκ hξ ξ κ
      refine rr_ [3, 5, 7, 8, 9, 10, 11, 13, 14, 73, 74, 75] [] [] fun κ ξ hκ hξ => ?_
      try simp +decide only [go_sem, beq_self_eq_true, c0, hk, hi3, hl0, h0i, c1, hscl, hs33, c2, hux, hsc, hfl, hf33, hq21, hz21, hq24, hz24, hb17, c3, c4, hdx, hdw, hfo]
      repeat with_reducible refine an_ ?_
      refine hκ _ _ ?_; clear hκ hξ ξ κ
      refine ⟨(m + 1, true), ⟨⟨by simp only; omega, (fun h => by cases h), fun _ => hfo⟩, by simp only; omega⟩, EnvLe.of_eq ?_, .refl _⟩
      rw [w64 (n := (m : Int) + 1) (by omega), hta]
      first | rfl | (rw [hfo]; rfl)
   ·simp only [go_sem] at c2
    obtain rfl : m = (chn d.nodes i).length := by omega
    have hsf : (boxC d (nat d.nodes i).id w s lg).2.2.1 = sn := by
     cases sn with
     | true => exact hs2 rfl
     | false =>
      rw [hbv.1, (hs1 rfl).1, cur_end hT hi, root_box hd hr]; rfl
    have htk := List.take_length (l := chn d.nodes i)
    have hflI := fnd_len d (nat d.nodes i).id w s lg
    have hq21i : (List.map iD (List.drop 21 (fndR d (nat d.nodes i).id w s lg).1.st)).headD .top = .int .i64 (iat (fndR d (nat d.nodes i).id w s lg).1.st 21) := hd_i (by omega)
    have hz21i : 1 ≤ (List.drop 21 (fndR d (nat d.nodes i).id w s lg).1.st).length := by rw [List.length_drop]; omega
    have hq24i : (List.map iD (List.drop 24 (fndR d (nat d.nodes i).id w s lg).1.st)).headD .top = .int .i64 (iat (fndR d (nat d.nodes i).id w s lg).1.st 24) := hd_i (by omega)
    have hz24i : 1 ≤ (List.drop 24 (fndR d (nat d.nodes i).id w s lg).1.st).length := by rw [List.length_drop]; omega
    have hi33 : List.take 33 (fndR d (nat d.nodes i).id w s lg).1.st = (fndR d (nat d.nodes i).id w s lg).1.st := List.take_of_length_le (by first | omega | (rw [styC_len]; omega) | (rw [styR_len (by assumption)]; omega))
    refine ex ?_
    refine sq ?_
    refine sr_ [3, 5, 7, 8, 14, 128] [] [] fun κ ξ hκ hξ => ?_
    try simp +decide only [go_sem, beq_self_eq_true, c0, hk, hi3, hl0, h0i, c1, hscl, hs33, c2, hsf]
    repeat with_reducible refine an_ ?_
    refine hκ _ _ ?_; clear hκ hξ ξ κ
    refine cd_ (fun c5 => ?_) (fun c5 => ?_)
    ·exfalso
     simp [go_sem] at c5
    ·skip
     refine sk ?_
     refine srz_ [(21, [])] [3, 5, 7, 8, 14, 21, 22] [] [] fun κ ξ hκ hξ => ?_
     try simp +decide only [go_sem, beq_self_eq_true, c0, hk, hi3, hl0, h0i, c1, hscl, hs33, c2, hsf, c5]
     repeat with_reducible refine an_ ?_
     refine callF (cst_w _ _ _ _ _) ?_
     try simp +decide only [go_sem, beq_self_eq_true, c0, hk, hi3, hl0, h0i, c1, hscl, hs33, c2, hsf, c5]
     repeat with_reducible refine an_ ?_
     intro b21 hb21
     try simp +decide only [go_sem, beq_self_eq_true, c0, hk, hi3, hl0, h0i, c1, hscl, hs33, c2, hsf, c5, hb21]
     repeat with_reducible refine an_ ?_
     refine hκ _ _ ?_; clear hκ hξ ξ κ
     refine sr_ [3, 5, 7, 14, 21, 22, 24] [] [] fun κ ξ hκ hξ => ?_
     try simp +decide only [go_sem, beq_self_eq_true, c0, hk, hi3, hl0, h0i, c1, hscl, hs33, c2, hsf, c5, hb21]
     repeat with_reducible refine an_ ?_
     refine callF (inr_w _ _ _ _ _) ?_
     try simp +decide only [go_sem, beq_self_eq_true, c0, hk, hi3, hl0, h0i, c1, hscl, hs33, c2, hsf, c5, hb21]
     repeat with_reducible refine an_ ?_
     refine hκ _ _ ?_; clear hκ hξ ξ κ
     refine sq ?_
     refine sr_ [7, 21, 22, 24, 149] [] [(4, 147)] fun κ ξ hκ hξ => ?_
     try simp +decide only [go_sem, beq_self_eq_true, c0, hk, hi3, hl0, h0i, c1, hscl, hs33, c2, hsf, c5, hb21]
     repeat with_reducible refine an_ ?_
     refine callF (cck_w _ _ _ _) ?_
     try simp +decide only [go_sem, beq_self_eq_true, c0, hk, hi3, hl0, h0i, c1, hscl, hs33, c2, hsf, c5, hb21]
     repeat with_reducible refine an_ ?_
     refine hκ _ _ ?_; clear hκ hξ ξ κ
     refine cd_ (fun c6 => ?_) (fun c6 => ?_)
     ·simp only [go_sem] at c6
      refine sr_ [6] [] [] fun κ ξ hκ hξ => ?_
      try simp +decide only [go_sem, beq_self_eq_true, c0, hk, hi3, hl0, h0i, c1, hscl, hs33, c2, hsf, c5, hb21, c6]
      repeat with_reducible refine an_ ?_
      refine hκ _ _ ?_; clear hκ hξ ξ κ
      refine rt ?_
      refine retE ?_
      simp +decide only [go_sem, resD, resV, beq_self_eq_true, c0, hk, hi3, hl0, h0i, c1, hscl, hs33, c2, hsf, c5, hb21, c6]
      all_goals first | rfl | (congr 1; rcases hbf with h | h | h <;> simp [h]; done) | (simp [*]; done)
     ·simp only [go_sem] at c6
      obtain ⟨hbs, hbf⟩ := box_fin hd hr hi h2 c6.1 (by rw [← htk]; exact c6.2)
      refine sk ?_
      refine sr_ [6] [] [(1, 152), (5, 156), (9, 160), (14, 165)] fun κ ξ hκ hξ => ?_
      try simp +decide only [go_sem, beq_self_eq_true, c0, hk, hi3, hl0, h0i, c1, hscl, hs33, c2, hsf, c5, hb21, c6, hbs, hflI, hi33, hq21i, hz21i, hq24i, hz24i]
      repeat with_reducible refine an_ ?_
      refine hκ _ _ ?_; clear hκ hξ ξ κ
      refine rt ?_
      refine retE ?_
      simp +decide only [go_sem, resD, resV, beq_self_eq_true, c0, hk, hi3, hl0, h0i, c1, hscl, hs33, c2, hsf, c5, hb21, c6, hbs, hflI, hi33, hq21i, hz21i, hq24i, hz24i]
      all_goals first | rfl | (congr 1; rcases hbf with h | h | h <;> simp [h]; done) | (simp [*]; done)
end Go.Proofs.YtinhjbnljbmbcaaGreat

/- Contain's laws: the paths. Printed by a tool of our own. -/
import Derived.Test.YtinhjbnljbmbcaaGreatY14
import Derived.Test.YtinhjbnljbmbcaaGreatYPl
namespace Go.Proofs.YtinhjbnljbmbcaaGreat
open Go Go.RowKit
set_option linter.unusedSimpArgs false
set_option linter.unusedVariables false
set_option maxHeartbeats 4000000
set_option maxRecDepth 100000
attribute [local go_sem] List.length_map rowAt_n nrow rowAt_t trow rowAt_i irow
attribute [local go_sem] rowAt_e rowAt_tm rowAt_dc rowAt_ru tmrow dcrow rurow
attribute [local go_sem] rowAt_br rowAt_s rowAt_fo rowAt_ve rowAt_g rowAt_k grow krow srow brrow forow dorow verow
attribute [local go_sem] iD_all iD_len rw2_0 rw2_1 rw1_0 Int.toNat_one
attribute [local go_sem] pl_d33 pl_d34 pl_d35 pl_d36 pl_d37 pl_d38 pl_d39 pl_t33 pl_t34 pl_t35 pl_t36 pl_t37 pl_t38 pl_t39 pl_dlt pl_ge pl_len pl_all iD_len iD_all plR plT List.append_assoc firstS_len Nat.zero_add Int.reduceToNat
attribute [local go_sem] apD_some get_apS upd_apS
theorem law5_w (d : Do) (which w s lg : Int) : PCall Tryz.prog (.func 5) [.ag (dorow d), .int .u8 which, .ag [.int .i64 w, .int .i64 s, .int .i64 lg]] (.bool true) := by
 refine PCall.ok fun hok => ?_
 simp only [okAll, D.ok, okRows, and_true, true_and, lim_eq, inR_i64', inR_i32', inR_u8', inR_u16', inR_u64'] at hok
 have hwh : 0 ≤ which ∧ which ≤ 255 := by have := hok.2.1; omega
 refine PCall.le ?_
 refine fn_ Tryz.func5 (by rfl) (by rfl) (rs := [.tmp 6]) (by rfl) (by simp [Tryz.f5]) ?_
 refine sr_ [1, 3, 5] [3, 5] [] fun κ ξ hκ hξ => ?_
 try simp +decide only [go_sem]
 repeat with_reducible refine an_ ?_
 refine hκ _ _ ?_; clear hκ hξ ξ κ
 refine sr_ [1, 3, 5, 7] [] [] fun κ ξ hκ hξ => ?_
 try simp +decide only [go_sem]
 repeat with_reducible refine an_ ?_
 refine callF (head_w) ?_
 try simp +decide only [go_sem]
 repeat with_reducible refine an_ ?_
 refine hκ _ _ ?_; clear hκ hξ ξ κ
 refine sq ?_
 refine sr_ [1, 3, 5, 7, 27] [] [] fun κ ξ hκ hξ => ?_
 try simp +decide only [go_sem]
 repeat with_reducible refine an_ ?_
 refine callF (usb_w _ _ _ _) ?_
 try simp +decide only [go_sem]
 repeat with_reducible refine an_ ?_
 refine hκ _ _ ?_; clear hκ hξ ξ κ
 refine cd_ (fun c0 => ?_) (fun c0 => ?_)
 ·simp only [go_sem] at c0
  refine sr_ [6] [] [] fun κ ξ hκ hξ => ?_
  try simp +decide only [go_sem, c0]
  repeat with_reducible refine an_ ?_
  refine hκ _ _ ?_; clear hκ hξ ξ κ
  refine rt ?_
  refine retE ?_
  simp +decide only [go_sem, resD, resV, c0]
  all_goals first | rfl | (simp [*]; done)
 ·simp only [go_sem] at c0
  have c0x := c0
  obtain ⟨⟨hfew, hd⟩, hr⟩ := c0x
  have hT := treB_true.1 (docB_tre hd).1
  have hl1 := hT.len.1
  have hl4 := hT.len.2
  obtain ⟨i, hk, hi⟩ := which_at hwh hl1
  have hi3 : (i : Int) < (d.nodes.length : Int) := by omega
  have hl0 : (d.nodes.length : Int) ≠ 0 := by omega
  have h0i : (0 : Int) ≤ (i : Int) := by omega
  have hp30 := path_len hT hi
  refine sk ?_
  refine srd_ [3, 5, 7, 8] [] [] [] fun κ ξ hκ hξ => ?_
  try simp +decide only [go_sem, c0, hk, hi3, hl0, h0i]
  repeat with_reducible refine an_ ?_
  refine hκ _ _ ?_; clear hκ hξ ξ κ
  refine sr_ [3, 5, 7, 8, 9] [] [] fun κ ξ hκ hξ => ?_
  try simp +decide only [go_sem, c0, hk, hi3, hl0, h0i]
  repeat with_reducible refine an_ ?_
  refine callF (way_w _ _ i hT hi) ?_
  try simp +decide only [go_sem, c0, hk, hi3, hl0, h0i]
  repeat with_reducible refine an_ ?_
  refine hκ _ _ ?_; clear hκ hξ ξ κ
  refine sr_ [3, 5, 7, 8, 9, 10] [] [] fun κ ξ hκ hξ => ?_
  try simp +decide only [go_sem, c0, hk, hi3, hl0, h0i]
  repeat with_reducible refine an_ ?_
  intro b10 hb10
  try simp +decide only [go_sem, c0, hk, hi3, hl0, h0i, hb10]
  repeat with_reducible refine an_ ?_
  refine hκ _ _ ?_; clear hκ hξ ξ κ
  refine sr_ [3, 5, 7, 8, 9, 10] [] [] fun κ ξ hκ hξ => ?_
  try simp +decide only [go_sem, c0, hk, hi3, hl0, h0i, hb10]
  repeat with_reducible refine an_ ?_
  refine hκ _ _ ?_; clear hκ hξ ξ κ
  refine sq ?_
  refine sr_ [3, 5, 7, 8, 9, 10, 47, 48, 49] [] [] fun κ ξ hκ hξ => ?_
  try simp +decide only [go_sem, c0, hk, hi3, hl0, h0i, hb10]
  repeat with_reducible refine an_ ?_
  refine hκ _ _ ?_; clear hκ hξ ξ κ
  refine bl ?_
  refine lp (α := Nat × Option (Nat × Nat)) (fun y => mk [(3, .el (dorow d)), (5, .el [.int .i64 w, .int .i64 s, .int .i64 lg]), (7, .bool true), (8, .int .i64 (nat d.nodes i).id), (9, .sl 1 ((pathL d.nodes i).map irow) .no), (10, .ptr b10 0), (47, .sl 5 (d.nodes.map nrow) .no), (48, .int .i64 d.nodes.length), (49, .int .i64 y.1)]) (fun y => apS 5 (alo d.nodes i y.1).length y.2 ++ [(b10, .cells [apD 5 ((alo d.nodes i y.1).map nrow) y.2, .sl 4 (d.rules.map rurow) .no, .sl 2 (d.fonts.map forow) .no, .sl 3 (d.breaks.map brrow) .no])]) (fun y => y.1 ≤ d.nodes.length ∧ apOK ((alo d.nodes i y.1).map nrow) y.2 ∧ frO y.2 b10) (fun y => d.nodes.length - y.1) (0, none) ⟨⟨by simp only; omega, fun _ => rfl, (fun _ _ h => by cases h)⟩, EnvLe.of_eq rfl, .refl _⟩ ?_
  rintro ⟨n, o⟩ ⟨hn, ho, hfo⟩
  simp only at hn ho hfo
  have hall := alo_len d.nodes i n
  refine sr_ [3, 5, 7, 8, 9, 10, 47, 48, 49, 50] [] [] fun κ ξ hκ hξ => ?_
  try simp +decide only [go_sem, c0, hk, hi3, hl0, h0i, hb10, hfo]
  repeat with_reducible refine an_ ?_
  refine hκ _ _ ?_; clear hκ hξ ξ κ
  refine sq ?_
  refine cd_ (fun c1 => ?_) (fun c1 => ?_)
  ·simp only [go_sem] at c1
   have hni : (n : Int) < (d.nodes.length : Int) := by omega
   refine sk ?_
   refine sq ?_
   refine bl ?_
   refine srz_ [(12, [])] [3, 5, 7, 8, 9, 10, 12, 47, 48, 49] [] [] fun κ ξ hκ hξ => ?_
   try simp +decide only [go_sem, c0, hk, hi3, hl0, h0i, hb10, hfo, c1, hni]
   repeat with_reducible refine an_ ?_
   intro b12 hb12
   try simp +decide only [go_sem, c0, hk, hi3, hl0, h0i, hb10, hfo, c1, hni, hb12]
   repeat with_reducible refine an_ ?_
   refine hκ _ _ ?_; clear hκ hξ ξ κ
   refine sr_ [3, 5, 7, 8, 9, 10, 12, 47, 48, 49, 56] [] [] fun κ ξ hκ hξ => ?_
   try simp +decide only [go_sem, c0, hk, hi3, hl0, h0i, hb10, hfo, c1, hni, hb12]
   repeat with_reducible refine an_ ?_
   refine callF (rhas_w _ _ _) ?_
   try simp +decide only [go_sem, c0, hk, hi3, hl0, h0i, hb10, hfo, c1, hni, hb12]
   repeat with_reducible refine an_ ?_
   refine hκ _ _ ?_; clear hκ hξ ξ κ
   refine cd_ (fun c2 => ?_) (fun c2 => ?_)
   ·try simp only [go_sem] at c2
    refine rr_ [3, 5, 7, 8, 9, 10, 47, 48, 49] [] [] fun κ ξ hκ hξ => ?_
    try simp +decide only [go_sem, c0, hk, hi3, hl0, h0i, hb10, hfo, c1, hni, hb12, c2]
    repeat with_reducible refine an_ ?_
    refine napp_growN (o := o) (rows := (alo d.nodes i n).map nrow) (ρ := [(b10, _)]) ho (frO_ap hfo) (List.length_map ..) rfl rfl (by simp +decide only [go_sem, Option.isSome_some]) tf106 tf107 tf204 (by refine ⟨⟨rfl, by decide, by decide⟩, by simp +decide only [go_sem], by simp, ?_⟩; simp [capB]; omega) ?_
    intro b61 c61 hb61
    have hfo2 : frO (some (b61, c61)) b10 := fun c k e => by cases e; simpa [Store.keys] using hb61
    try simp +decide only [go_sem, c0, hk, hi3, hl0, h0i, hb10, hfo, c1, hni, hb12, c2, hfo2]
    repeat with_reducible refine an_ ?_
    refine hκ _ _ ?_; clear hκ hξ ξ κ
    refine rr_ [3, 5, 7, 8, 9, 10, 47, 48, 49] [] [] fun κ ξ hκ hξ => ?_
    try simp +decide only [go_sem, c0, hk, hi3, hl0, h0i, hb10, hfo, c1, hni, hb12, c2, hfo2]
    repeat with_reducible refine an_ ?_
    refine hκ _ _ ?_; clear hκ hξ ξ κ
    refine ⟨(n + 1, some (b61, c61)), ⟨⟨by simp only; omega, (show apOK _ (some _) from fun h => by cases h), hfo2⟩, by simp only; omega⟩, EnvLe.of_eq ?_, ?_⟩
    ·rw [w64 (n := (n : Int) + 1) (by omega)]; rfl
    ·simp only
     rw [alo_succ, if_pos (by simpa using c2), List.map_append, List.length_append]; exact .refl _
   ·try simp only [go_sem] at c2
    refine sk ?_
    refine rr_ [3, 5, 7, 8, 9, 10, 47, 48, 49] [] [] fun κ ξ hκ hξ => ?_
    try simp +decide only [go_sem, c0, hk, hi3, hl0, h0i, hb10, hfo, c1, hni, hb12, c2]
    repeat with_reducible refine an_ ?_
    refine hκ _ _ ?_; clear hκ hξ ξ κ
    have hna : alo d.nodes i (n + 1) = alo d.nodes i n := by rw [alo_succ, if_neg (by simpa using c2)]
    refine ⟨(n + 1, o), ⟨⟨by simp only; omega, by simp only; rw [hna]; exact ho, hfo⟩, by simp only; omega⟩, EnvLe.of_eq ?_, ?_⟩
    ·rw [w64 (n := (n : Int) + 1) (by omega)]; rfl
    ·simp only
     rw [hna]; exact .refl _
  ·simp only [go_sem] at c1
   obtain rfl : n = d.nodes.length := by omega
   have hal2 := alo_all hT hi
   obtain ⟨hes, hei, heb⟩ := less_all hd hr hi
   obtain ⟨⟨bo, co⟩, rfl⟩ : ∃ p, o = some p := by
    cases o with
    | none =>
     have h := ho rfl
     have h2 := ptT_len d.nodes i
     rw [hal2, List.map_eq_nil_iff] at h
     rw [h] at h2
     simp at h2
    | some p => exact ⟨p, rfl⟩
   have hbo : ¬ bo = b10 := hfo _ _ rfl
   have hbo2 : ¬ b10 = bo := fun e => hbo e.symm
   have hscl := styC_len d (nat d.nodes i).id w s lg
   have hs33 : List.take 33 (styC d (nat d.nodes i).id w s lg).1 = (styC d (nat d.nodes i).id w s lg).1 := List.take_of_length_le (by first | omega | (rw [styC_len]; omega) | (rw [styR_len (by assumption)]; omega))
   have hdq := deq33 hscl hscl
   refine ex ?_
   refine srz_ [(13, [])] [3, 5, 7, 8, 10, 13, 14] [] [] fun κ ξ hκ hξ => ?_
   try simp +decide only [go_sem, c0, hk, hi3, hl0, h0i, hb10, hfo, c1, hal2, hes, hei, heb, hbo, hbo2, hscl, hs33, hdq, apD, apS, beq_self_eq_true]
   repeat with_reducible refine an_ ?_
   refine callF (cst_w _ _ _ _ _) ?_
   try simp +decide only [go_sem, c0, hk, hi3, hl0, h0i, hb10, hfo, c1, hal2, hes, hei, heb, hbo, hbo2, hscl, hs33, hdq, apD, apS, beq_self_eq_true]
   repeat with_reducible refine an_ ?_
   intro b13 hb13
   try simp +decide only [go_sem, c0, hk, hi3, hl0, h0i, hb10, hfo, c1, hal2, hes, hei, heb, hbo, hbo2, hscl, hs33, hdq, apD, apS, beq_self_eq_true, hb13]
   repeat with_reducible refine an_ ?_
   refine hκ _ _ ?_; clear hκ hξ ξ κ
   refine srz_ [(15, [])] [3, 5, 7, 8, 10, 13, 14, 15, 16] [] [] fun κ ξ hκ hξ => ?_
   try simp +decide only [go_sem, c0, hk, hi3, hl0, h0i, hb10, hfo, c1, hal2, hes, hei, heb, hbo, hbo2, hscl, hs33, hdq, apD, apS, beq_self_eq_true, hb13]
   repeat with_reducible refine an_ ?_
   refine callF (PCall.args (xs := [.ag [.sl 5 ((ptT d.nodes i).map nrow) (.own bo co), .sl 4 (d.rules.map rurow) .no, .sl 2 (d.fonts.map forow) .no, .sl 3 (d.breaks.map brrow) .no], .int .i64 (nat d.nodes i).id, .ag [.int .i64 w, .int .i64 s, .int .i64 lg]]) (cst_w (lessD d i) (nat d.nodes i).id w s lg) ⟨DLe.ag ⟨DLe.tok _ _ _, DLe.refl _, DLe.refl _, DLe.refl _, trivial⟩, DLe.refl _, DLe.refl _, trivial⟩) ?_
   try simp +decide only [go_sem, c0, hk, hi3, hl0, h0i, hb10, hfo, c1, hal2, hes, hei, heb, hbo, hbo2, hscl, hs33, hdq, apD, apS, beq_self_eq_true, hb13]
   repeat with_reducible refine an_ ?_
   intro b15 hb15
   try simp +decide only [go_sem, c0, hk, hi3, hl0, h0i, hb10, hfo, c1, hal2, hes, hei, heb, hbo, hbo2, hscl, hs33, hdq, apD, apS, beq_self_eq_true, hb13, hb15]
   repeat with_reducible refine an_ ?_
   refine hκ _ _ ?_; clear hκ hξ ξ κ
   refine sr_ [3, 5, 7, 8, 10] [] [(1, 79), (6, 84)] fun κ ξ hκ hξ => ?_
   try simp +decide only [go_sem, c0, hk, hi3, hl0, h0i, hb10, hfo, c1, hal2, hes, hei, heb, hbo, hbo2, hscl, hs33, hdq, apD, apS, beq_self_eq_true, hb13, hb15]
   repeat with_reducible refine an_ ?_
   refine hκ _ _ ?_; clear hκ hξ ξ κ
   refine sr_ [3, 5, 7, 8, 10, 14, 17] [] [] fun κ ξ hκ hξ => ?_
   try simp +decide only [go_sem, c0, hk, hi3, hl0, h0i, hb10, hfo, c1, hal2, hes, hei, heb, hbo, hbo2, hscl, hs33, hdq, apD, apS, beq_self_eq_true, hb13, hb15]
   repeat with_reducible refine an_ ?_
   refine callF (inr_w _ _ _ _ _) ?_
   try simp +decide only [go_sem, c0, hk, hi3, hl0, h0i, hb10, hfo, c1, hal2, hes, hei, heb, hbo, hbo2, hscl, hs33, hdq, apD, apS, beq_self_eq_true, hb13, hb15]
   repeat with_reducible refine an_ ?_
   refine hκ _ _ ?_; clear hκ hξ ξ κ
   refine sr_ [3, 5, 7, 8, 10, 14, 16, 17, 18] [] [] fun κ ξ hκ hξ => ?_
   try simp +decide only [go_sem, c0, hk, hi3, hl0, h0i, hb10, hfo, c1, hal2, hes, hei, heb, hbo, hbo2, hscl, hs33, hdq, apD, apS, beq_self_eq_true, hb13, hb15]
   repeat with_reducible refine an_ ?_
   refine callF (PCall.args (xs := [.ag [.sl 5 ((ptT d.nodes i).map nrow) (.own bo co), .sl 4 (d.rules.map rurow) .no, .sl 2 (d.fonts.map forow) .no, .sl 3 (d.breaks.map brrow) .no], .int .i64 (nat d.nodes i).id, .ag [.int .i64 w, .int .i64 s, .int .i64 lg]]) (inr_w (lessD d i) (nat d.nodes i).id w s lg) ⟨DLe.ag ⟨DLe.tok _ _ _, DLe.refl _, DLe.refl _, DLe.refl _, trivial⟩, DLe.refl _, DLe.refl _, trivial⟩) ?_
   try simp +decide only [go_sem, c0, hk, hi3, hl0, h0i, hb10, hfo, c1, hal2, hes, hei, heb, hbo, hbo2, hscl, hs33, hdq, apD, apS, beq_self_eq_true, hb13, hb15]
   repeat with_reducible refine an_ ?_
   refine hκ _ _ ?_; clear hκ hξ ξ κ
   refine sr_ [3, 5, 7, 8, 10] [] [(1, 104), (6, 109)] fun κ ξ hκ hξ => ?_
   try simp +decide only [go_sem, c0, hk, hi3, hl0, h0i, hb10, hfo, c1, hal2, hes, hei, heb, hbo, hbo2, hscl, hs33, hdq, apD, apS, beq_self_eq_true, hb13, hb15]
   repeat with_reducible refine an_ ?_
   refine hκ _ _ ?_; clear hκ hξ ξ κ
   refine sr_ [5, 7, 8, 10, 14, 17, 19, 20] [] [] fun κ ξ hκ hξ => ?_
   try simp +decide only [go_sem, c0, hk, hi3, hl0, h0i, hb10, hfo, c1, hal2, hes, hei, heb, hbo, hbo2, hscl, hs33, hdq, apD, apS, beq_self_eq_true, hb13, hb15]
   repeat with_reducible refine an_ ?_
   refine callF (box_w _ _ _ _ _) ?_
   try simp +decide only [go_sem, c0, hk, hi3, hl0, h0i, hb10, hfo, c1, hal2, hes, hei, heb, hbo, hbo2, hscl, hs33, hdq, apD, apS, beq_self_eq_true, hb13, hb15]
   repeat with_reducible refine an_ ?_
   refine hκ _ _ ?_; clear hκ hξ ξ κ
   refine sr_ [7, 14, 16, 17, 18, 19, 20, 21, 22] [] [] fun κ ξ hκ hξ => ?_
   try simp +decide only [go_sem, c0, hk, hi3, hl0, h0i, hb10, hfo, c1, hal2, hes, hei, heb, hbo, hbo2, hscl, hs33, hdq, apD, apS, beq_self_eq_true, hb13, hb15]
   repeat with_reducible refine an_ ?_
   refine callF (PCall.args (xs := [.ag [.sl 5 ((ptT d.nodes i).map nrow) (.own bo co), .sl 4 (d.rules.map rurow) .no, .sl 2 (d.fonts.map forow) .no, .sl 3 (d.breaks.map brrow) .no], .int .i64 (nat d.nodes i).id, .ag [.int .i64 w, .int .i64 s, .int .i64 lg]]) (box_w (lessD d i) (nat d.nodes i).id w s lg) ⟨DLe.ag ⟨DLe.tok _ _ _, DLe.refl _, DLe.refl _, DLe.refl _, trivial⟩, DLe.refl _, DLe.refl _, trivial⟩) ?_
   try simp +decide only [go_sem, c0, hk, hi3, hl0, h0i, hb10, hfo, c1, hal2, hes, hei, heb, hbo, hbo2, hscl, hs33, hdq, apD, apS, beq_self_eq_true, hb13, hb15]
   repeat with_reducible refine an_ ?_
   refine hκ _ _ ?_; clear hκ hξ ξ κ
   refine sr_ [6] [] [(1, 133), (6, 138), (11, 143), (16, 148)] fun κ ξ hκ hξ => ?_
   try simp +decide only [go_sem, c0, hk, hi3, hl0, h0i, hb10, hfo, c1, hal2, hes, hei, heb, hbo, hbo2, hscl, hs33, hdq, apD, apS, beq_self_eq_true, hb13, hb15]
   repeat with_reducible refine an_ ?_
   refine hκ _ _ ?_; clear hκ hξ ξ κ
   refine rt ?_
   refine retE ?_
   simp +decide only [go_sem, resD, resV, c0, hk, hi3, hl0, h0i, hb10, hfo, c1, hal2, hes, hei, heb, hbo, hbo2, hscl, hs33, hdq, apD, apS, beq_self_eq_true, hb13, hb15]
   all_goals first | rfl | (simp [*]; done)
end Go.Proofs.YtinhjbnljbmbcaaGreat

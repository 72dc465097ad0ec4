/- Contain's laws: the texts. Printed by a tool of our own. -/
import Derived.Test.YtinhjbnljbmbcaaGreatY14
import Derived.Test.YtinhjbnljbmbcaaGreatYPm
namespace Go.Proofs.YtinhjbnljbmbcaaGreat
open Go Go.RowKit
set_option linter.unusedSimpArgs false
set_option linter.unusedVariables false
set_option maxHeartbeats 4000000
set_option maxRecDepth 100000
theorem nrow_all (l : List Nd) : (l.map nrow).all (·.all D.isCell) = true := by
 rw [List.all_map]
 exact List.all_eq_true.2 fun _ _ => rfl
theorem nappM_e {P : Program} {σ : Store} {ts : Array TypeId} {T U V : TypeId} {g : Bool} {sz by_ : Nat} {z : List D} {new : List (List D)} {tk : Tok} {K : D → Store → Prop} (hnew : new = []) (hT : ts[0]? = some T) (hV : ts[1]? = some V) (hV' : (sle P V).isSome = true) (hs : sle P T = some (U, g, sz)) (hy : eby P T = some by_) (hz : zc P U = some z)
  (hside : z.length = sz ∧ 0 < sz ∧ 0 < by_) (hK : K (.sl sz [] .full) σ) : nappM P σ ts (.sl sz [] .full) (.sl sz new tk) K := by
 subst hnew
 obtain ⟨hz1, h0, hb0⟩ := hside
 unfold nappM
 simp only [hT, Option.bind_some, hs, hy, rowsOf]
 exact ⟨⟨⟨z, hz, hz1⟩, ⟨V, hV, .inl hV'⟩, h0, hb0, by simp, rfl⟩, ⟨by simp, by simp, rfl, by simp⟩, fun _ => hK, fun e => absurd rfl e⟩
theorem fraE_nil (b sz : Nat) (rows : List (List D)) (env : Env) : fraE [] b sz rows env = env := rfl
attribute [local go_sem] List.length_map rowAt_n nrow rowAt_t trow rowAt_i irow
attribute [local go_sem] rowAt_e rowAt_tm rowAt_dc rowAt_ru tmrow dcrow rurow
attribute [local go_sem] rowAt_br rowAt_s rowAt_fo rowAt_ve rowAt_g rowAt_k grow krow srow brrow forow dorow verow
attribute [local go_sem] iD_all iD_len rw2_0 rw2_1 rw1_0 Int.toNat_one
attribute [local go_sem] pl_d33 pl_d34 pl_d35 pl_d36 pl_d37 pl_d38 pl_d39 pl_t33 pl_t34 pl_t35 pl_t36 pl_t37 pl_t38 pl_t39 pl_dlt pl_ge pl_len pl_all iD_len iD_all plR plT List.append_assoc firstS_len Nat.zero_add Int.reduceToNat
theorem law8_w (d : Do) (which w s lg : Int) (fo : List Fo) (br : List Br) (hsz : d.nodes.length ≤ 2932031007402) : PCall Tryz.prog (.func 8) [.ag (dorow d), .int .u8 which, .ag [.int .i64 w, .int .i64 s, .int .i64 lg], .sl 2 (fo.map forow) .no, .sl 3 (br.map brrow) .no] (.bool true) := by
 refine PCall.ok fun hok => ?_
 simp only [okAll, D.ok, okRows, and_true, true_and, lim_eq, inR_i64', inR_i32', inR_u8', inR_u16', inR_u64'] at hok
 have hwh : 0 ≤ which ∧ which ≤ 255 := by have := hok.2.1; omega
 refine PCall.le ?_
 refine fn_ Tryz.func8 (by rfl) (by rfl) (rs := [.tmp 10]) (by rfl) (by simp [Tryz.f8]) ?_
 refine sr_ [1, 3, 4, 5, 7] [5, 7] [] fun κ ξ hκ hξ => ?_
 try simp +decide only [go_sem]
 repeat with_reducible refine an_ ?_
 refine hκ _ _ ?_; clear hκ hξ ξ κ
 refine sr_ [1, 3, 4, 5, 7, 11] [] [] fun κ ξ hκ hξ => ?_
 try simp +decide only [go_sem]
 repeat with_reducible refine an_ ?_
 refine callF (head_w) ?_
 try simp +decide only [go_sem]
 repeat with_reducible refine an_ ?_
 refine hκ _ _ ?_; clear hκ hξ ξ κ
 refine sr_ [1, 3, 4, 5, 7, 11, 12] [] [] fun κ ξ hκ hξ => ?_
 try simp +decide only [go_sem]
 repeat with_reducible refine an_ ?_
 intro b12 hb12
 try simp +decide only [go_sem, hb12]
 repeat with_reducible refine an_ ?_
 refine hκ _ _ ?_; clear hκ hξ ξ κ
 by_cases hne : d.nodes = []
 ·have hmn : d.nodes.map nrow = [] := by rw [hne]; rfl
  have hus : (fewD d && docB d && rdB w s lg) = false := by
   cases h : docB d with
   | false => simp
   | true =>
    have := (treB_true.1 (docB_tre h).1).len
    rw [hne] at this
    simp at this
  refine sr_ [1, 3, 4, 5, 7, 11, 12] [24] [] fun κ ξ hκ hξ => ?_
  try simp +decide only [go_sem, hb12, hus]
  repeat with_reducible refine an_ ?_
  first
  | (refine .inl (nappM_e hmn rfl rfl (by simp +decide only [go_sem, Option.isSome_some]) tf106 tf107 tf204 ⟨rfl, by decide, by decide⟩ ?_); have hb24 : True := trivial; have hb242 : True := trivial)
  | (refine .inl (nappM_fullT (rows := []) (n := 0) rfl rfl rfl (by simp +decide only [go_sem, Option.isSome_some]) tf106 tf107 tf204 (by refine ⟨⟨rfl, by decide, by decide⟩, rfl, nrow_all _, by simpa using hne, ?_⟩; rw [List.length_map]; simp [capB]; omega) ?_); intro b24 c24 hb24 hc24; simp only [Store.keys, List.map_cons, List.map_nil, List.mem_cons, List.not_mem_nil, or_false] at hb24; have hb242 : ¬ b12 = b24 := fun e => hb24 e.symm; rw [List.length_map, Nat.zero_add] at hc24)
  try simp +decide only [go_sem, hb12, hus, hb24, hb242]
  repeat with_reducible refine an_ ?_
  refine hκ _ _ ?_; clear hκ hξ ξ κ
  refine sq ?_
  refine sr_ [1, 3, 4, 5, 7, 11, 12, 28, 29] [] [] fun κ ξ hκ hξ => ?_
  try simp +decide only [go_sem, hb12, hus, hb24, hb242]
  repeat with_reducible refine an_ ?_
  refine hκ _ _ ?_; clear hκ hξ ξ κ
  refine bl ?_
  refine lpN 1 ?_
  refine rnd ?_
  refine sr_ [1, 3, 4, 5, 7, 11, 12, 28, 29, 30] [] [] fun κ ξ hκ hξ => ?_
  try simp +decide only [go_sem, hb12, hus, hb24, hb242]
  repeat with_reducible refine an_ ?_
  refine hκ _ _ ?_; clear hκ hξ ξ κ
  refine sq ?_
  refine cdf (by rfl) ?_
  refine ex ?_
  refine sr_ [1, 5, 7, 11, 12] [] [] fun κ ξ hκ hξ => ?_
  try simp +decide only [go_sem, hb12, hus, hb24, hb242]
  repeat with_reducible refine an_ ?_
  refine hκ _ _ ?_; clear hκ hξ ξ κ
  refine sq ?_
  refine sr_ [1, 5, 7, 11, 12, 55] [] [(4, 46), (9, 51)] fun κ ξ hκ hξ => ?_
  try simp +decide only [go_sem, hb12, hus, hb24, hb242]
  repeat with_reducible refine an_ ?_
  refine callF (usb_w _ _ _ _) ?_
  try simp +decide only [go_sem, hb12, hus, hb24, hb242]
  repeat with_reducible refine an_ ?_
  refine vo_gc ?_
  try simp +decide only [go_sem, hb12, hus, hb24, hb242]
  first | refine gcF (fewd_w ⟨d.nodes.map strip, d.rules, fo, br⟩) ?_ | refine gcallN ?_
  try simp +decide only [go_sem, hb12, hus, hb24, hb242]
  repeat with_reducible refine an_ ?_
  refine vo_gc ?_
  try simp +decide only [go_sem, hb12, hus, hb24, hb242]
  first | refine gcF (rcov_w ⟨d.nodes.map strip, d.rules, fo, br⟩) ?_ | refine gcallN ?_
  try simp +decide only [go_sem, hb12, hus, hb24, hb242]
  repeat with_reducible refine an_ ?_
  refine hκ _ _ ?_; clear hκ hξ ξ κ
  refine cdt (by rfl) ?_
  refine sr_ [10] [] [] fun κ ξ hκ hξ => ?_
  try simp +decide only [go_sem, hb12, hus, hb24, hb242]
  repeat with_reducible refine an_ ?_
  refine hκ _ _ ?_; clear hκ hξ ξ κ
  refine rt ?_
  refine retE ?_
  simp +decide only [go_sem, resD, resV, hb12, hus, hb24, hb242]
  all_goals first | rfl | (simp [*]; done)
 ·have hlt : (∃ t, (#[22] : Array TypeId)[0]? = some t ∧ (sle Tryz.prog t).isSome = true ∧ d.nodes.length ≤ 9223372036854775807) := ⟨22, rfl, by rw [tf106]; rfl, by omega⟩
  refine sr_ [1, 3, 4, 5, 7, 11, 12] [24] [] fun κ ξ hκ hξ => ?_
  try simp +decide only [go_sem, hb12, hlt]
  repeat with_reducible refine an_ ?_
  first
  | (refine .inl (nappM_e hmn rfl rfl (by simp +decide only [go_sem, Option.isSome_some]) tf106 tf107 tf204 ⟨rfl, by decide, by decide⟩ ?_); have hb24 : True := trivial; have hb242 : True := trivial)
  | (refine .inl (nappM_fullT (rows := []) (n := 0) rfl rfl rfl (by simp +decide only [go_sem, Option.isSome_some]) tf106 tf107 tf204 (by refine ⟨⟨rfl, by decide, by decide⟩, rfl, nrow_all _, by simpa using hne, ?_⟩; rw [List.length_map]; simp [capB]; omega) ?_); intro b24 c24 hb24 hc24; simp only [Store.keys, List.map_cons, List.map_nil, List.mem_cons, List.not_mem_nil, or_false] at hb24; have hb242 : ¬ b12 = b24 := fun e => hb24 e.symm; rw [List.length_map, Nat.zero_add] at hc24)
  try simp +decide only [go_sem, hb12, hlt, hb24, hb242]
  repeat with_reducible refine an_ ?_
  refine hκ _ _ ?_; clear hκ hξ ξ κ
  refine sq ?_
  refine sr_ [1, 3, 4, 5, 7, 11, 12, 28, 29] [] [] fun κ ξ hκ hξ => ?_
  try simp +decide only [go_sem, hb12, hlt, hb24, hb242]
  repeat with_reducible refine an_ ?_
  refine hκ _ _ ?_; clear hκ hξ ξ κ
  refine bl ?_
  refine lp (α := Nat) (fun m => mk [(1, .int .u8 which), (3, .sl 2 (fo.map forow) .no), (4, .sl 3 (br.map brrow) .no), (5, .el (dorow d)), (7, .el [.int .i64 w, .int .i64 s, .int .i64 lg]), (11, .bool true), (12, .ptr b12 0), (28, .int .i64 d.nodes.length), (29, .int .i64 m)]) (fun m => [(b24, .arr 5 ((stripL d.nodes m).map nrow) c24), (b12, .cells [.arr b24 5 d.nodes.length c24, .sl 4 (d.rules.map rurow) .no, .sl 2 (d.fonts.map forow) .no, .sl 3 (d.breaks.map brrow) .no])]) (fun m => m ≤ d.nodes.length) (fun m => d.nodes.length - m) 0 ⟨by omega, EnvLe.of_eq rfl, by rw [strip_zero]; exact .refl _⟩ ?_
  rintro m hm
  refine sr_ [1, 3, 4, 5, 7, 11, 12, 28, 29, 30] [] [] fun κ ξ hκ hξ => ?_
  try simp +decide only [go_sem, hb12, hlt, hb24, hb242]
  repeat with_reducible refine an_ ?_
  refine hκ _ _ ?_; clear hκ hξ ξ κ
  refine sq ?_
  refine cd_ (fun c0 => ?_) (fun c0 => ?_)
  ·simp only [go_sem] at c0
   have hmN : m < d.nodes.length := by omega
   have hd4 : (m * 5 + 4) / 5 = m := by omega
   have hm4 : (m * 5 + 4) % 5 = 4 := by omega
   refine sk ?_
   refine sq ?_
   refine bl ?_
   refine sr_ [1, 3, 4, 5, 7, 11, 12, 13, 28, 29] [] [] fun κ ξ hκ hξ => ?_
   try simp +decide only [go_sem, hb12, hlt, hb24, hb242, c0, hmN, hd4, hm4, stripL_len]
   repeat with_reducible refine an_ ?_
   refine hκ _ _ ?_; clear hκ hξ ξ κ
   refine rr_ [1, 3, 4, 5, 7, 11, 12, 28, 29] [] [] fun κ ξ hκ hξ => ?_
   try simp +decide only [go_sem, hb12, hlt, hb24, hb242, c0, hmN, hd4, hm4, stripL_len]
   repeat with_reducible refine an_ ?_
   refine hκ _ _ ?_; clear hκ hξ ξ κ
   refine weak _ (EnvLe.refl _) (σ' := [(b24, .arr 5 ((stripL d.nodes (m + 1)).map nrow) c24), (b12, .cells [.arr b24 5 d.nodes.length c24, .sl 4 (d.rules.map rurow) .no, .sl 2 (d.fonts.map forow) .no, .sl 3 (d.breaks.map brrow) .no])]) ?_ ?_
   ·rw [← strip_put (l := d.nodes) (m := m) hmN]; simp only [putCells, List.append_assoc, List.cons_append, List.nil_append, List.length_cons, List.length_nil]; exact .refl _
   refine rr_ [1, 3, 4, 5, 7, 11, 12, 28, 29] [] [] fun κ ξ hκ hξ => ?_
   try simp +decide only [go_sem, hb12, hlt, hb24, hb242, c0, hmN, hd4, hm4, stripL_len]
   repeat with_reducible refine an_ ?_
   refine hκ _ _ ?_; clear hκ hξ ξ κ
   refine ⟨m + 1, ⟨by omega, by omega⟩, EnvLe.of_eq (by rw [w64 (n := (m : Int) + 1) (by omega)]; rfl), .refl _⟩
  ·simp only [go_sem] at c0
   obtain rfl : m = d.nodes.length := by omega
   refine fza b24 [] [b12] (sz := 5) (rows := (d.nodes.map strip).map nrow) (cap := c24) (by rw [strip_all]; simp [Store.get]) ?_
   rw [fraE_nil]
   have hfs : fraS [b12] b24 5 ((d.nodes.map strip).map nrow) (Store.del [(b24, .arr 5 ((stripL d.nodes d.nodes.length).map nrow) c24), (b12, .cells [.arr b24 5 d.nodes.length c24, .sl 4 (d.rules.map rurow) .no, .sl 2 (d.fonts.map forow) .no, .sl 3 (d.breaks.map brrow) .no])] b24) = [(b12, .cells [.sl 5 ((d.nodes.map strip).map nrow) .no, .sl 4 (d.rules.map rurow) .no, .sl 2 (d.fonts.map forow) .no, .sl 3 (d.breaks.map brrow) .no])] := by
    have e1 : d.nodes.length ≤ lim := by unfold lim; omega
    have e2 : List.take d.nodes.length ((d.nodes.map strip).map nrow) = (d.nodes.map strip).map nrow := List.take_of_length_le (by rw [List.length_map, List.length_map]; exact Nat.le_refl _)
    have e3 : d.nodes.length ≤ ((d.nodes.map strip).map nrow).length := by rw [List.length_map, List.length_map]; exact Nat.le_refl _
    simp only [Store.del, if_true, fraS, List.map_cons, List.map_nil, fraB, fra1, List.contains_cons, beq_self_eq_true, Bool.true_or, cond_true]
    rw [if_pos ⟨trivial, trivial, e3, by omega, e1⟩, e2]
   rw [hfs]
   clear hfs
   refine ex ?_
   refine sr_ [1, 5, 7, 11, 12] [] [] fun κ ξ hκ hξ => ?_
   try simp +decide only [go_sem, hb12, hlt, hb24, hb242, c0]
   repeat with_reducible refine an_ ?_
   refine hκ _ _ ?_; clear hκ hξ ξ κ
   refine sq ?_
   refine sr_ [1, 5, 7, 11, 12, 55] [] [(4, 46), (9, 51)] fun κ ξ hκ hξ => ?_
   try simp +decide only [go_sem, hb12, hlt, hb24, hb242, c0]
   repeat with_reducible refine an_ ?_
   refine callF (usb_w _ _ _ _) ?_
   try simp +decide only [go_sem, hb12, hlt, hb24, hb242, c0]
   repeat with_reducible refine an_ ?_
   refine vo_gc ?_
   try simp +decide only [go_sem, hb12, hlt, hb24, hb242, c0]
   first | refine gcF (fewd_w ⟨d.nodes.map strip, d.rules, fo, br⟩) ?_ | refine gcallN ?_
   try simp +decide only [go_sem, hb12, hlt, hb24, hb242, c0]
   repeat with_reducible refine an_ ?_
   refine vo_gc ?_
   try simp +decide only [go_sem, hb12, hlt, hb24, hb242, c0]
   first | refine gcF (rcov_w ⟨d.nodes.map strip, d.rules, fo, br⟩) ?_ | refine gcallN ?_
   try simp +decide only [go_sem, hb12, hlt, hb24, hb242, c0]
   repeat with_reducible refine an_ ?_
   refine hκ _ _ ?_; clear hκ hξ ξ κ
   refine cd_ (fun c1 => ?_) (fun c1 => ?_)
   ·simp only [go_sem] at c1
    refine sr_ [10] [] [] fun κ ξ hκ hξ => ?_
    try simp +decide only [go_sem, hb12, hlt, hb24, hb242, c0, c1]
    repeat with_reducible refine an_ ?_
    refine hκ _ _ ?_; clear hκ hξ ξ κ
    refine rt ?_
    refine retE ?_
    simp +decide only [go_sem, resD, resV, hb12, hlt, hb24, hb242, c0, c1]
    all_goals first | rfl | (simp [*]; done)
   ·simp only [go_sem] at c1
    have c0 := c1.1.1
    have hdo := c1.2
    have c0x := c0
    obtain ⟨⟨hfew, hd⟩, hr⟩ := c0x
    have hT := treB_true.1 (docB_tre hd).1
    have hl1 := hT.len.1
    have hl4 := hT.len.2
    obtain ⟨i, hk, hi⟩ := which_at hwh hl1
    have hi3 : (i : Int) < (d.nodes.length : Int) := by omega
    have hl0 : (d.nodes.length : Int) ≠ 0 := by omega
    have h0i : (0 : Int) ≤ (i : Int) := by omega
    obtain ⟨_, hes⟩ := str_all (e := ⟨d.nodes.map strip, d.rules, fo, br⟩) (d := d) (w := w) (s := s) (lg := lg) rfl rfl hd hdo (nat d.nodes i).id
    have hck := str_chk (e := ⟨d.nodes.map strip, d.rules, fo, br⟩) (d := d) (w := w) (s := s) (lg := lg) rfl rfl hd hdo
    have hscl := styC_len d (nat d.nodes i).id w s lg
    have hs33 : List.take 33 (styC d (nat d.nodes i).id w s lg).1 = (styC d (nat d.nodes i).id w s lg).1 := List.take_of_length_le (by first | omega | (rw [styC_len]; omega) | (rw [styR_len (by assumption)]; omega))
    have hdq := deq33 hscl hscl
    refine sk ?_
    refine srd_ [5, 7, 11, 12, 14] [] [] [] fun κ ξ hκ hξ => ?_
    try simp +decide only [go_sem, hb12, hlt, hb24, hb242, c0, c1, hk, hi3, hl0, h0i, hes, hck, hscl, hs33, hdq, beq_self_eq_true]
    repeat with_reducible refine an_ ?_
    refine hκ _ _ ?_; clear hκ hξ ξ κ
    refine srz_ [(15, [])] [5, 7, 11, 12, 14, 15, 16] [] [] fun κ ξ hκ hξ => ?_
    try simp +decide only [go_sem, hb12, hlt, hb24, hb242, c0, c1, hk, hi3, hl0, h0i, hes, hck, hscl, hs33, hdq, beq_self_eq_true]
    repeat with_reducible refine an_ ?_
    refine callF (cst_w _ _ _ _ _) ?_
    try simp +decide only [go_sem, hb12, hlt, hb24, hb242, c0, c1, hk, hi3, hl0, h0i, hes, hck, hscl, hs33, hdq, beq_self_eq_true]
    repeat with_reducible refine an_ ?_
    intro b15 hb15
    try simp +decide only [go_sem, hb12, hlt, hb24, hb242, c0, c1, hk, hi3, hl0, h0i, hes, hck, hscl, hs33, hdq, beq_self_eq_true, hb15]
    repeat with_reducible refine an_ ?_
    refine hκ _ _ ?_; clear hκ hξ ξ κ
    refine srz_ [(17, [])] [5, 7, 11, 12, 15, 16, 17, 18] [] [] fun κ ξ hκ hξ => ?_
    try simp +decide only [go_sem, hb12, hlt, hb24, hb242, c0, c1, hk, hi3, hl0, h0i, hes, hck, hscl, hs33, hdq, beq_self_eq_true, hb15]
    repeat with_reducible refine an_ ?_
    refine callF (cst_w ⟨d.nodes.map strip, d.rules, fo, br⟩ _ w s lg) ?_
    try simp +decide only [go_sem, hb12, hlt, hb24, hb242, c0, c1, hk, hi3, hl0, h0i, hes, hck, hscl, hs33, hdq, beq_self_eq_true, hb15]
    repeat with_reducible refine an_ ?_
    intro b17 hb17
    try simp +decide only [go_sem, hb12, hlt, hb24, hb242, c0, c1, hk, hi3, hl0, h0i, hes, hck, hscl, hs33, hdq, beq_self_eq_true, hb15, hb17]
    repeat with_reducible refine an_ ?_
    refine hκ _ _ ?_; clear hκ hξ ξ κ
    refine srd_ [10] [] [96, 99] [(1, 83), (6, 88), (11, 93)] fun κ ξ hκ hξ => ?_
    try simp +decide only [go_sem, hb12, hlt, hb24, hb242, c0, c1, hk, hi3, hl0, h0i, hes, hck, hscl, hs33, hdq, beq_self_eq_true, hb15, hb17]
    repeat with_reducible refine an_ ?_
    refine vd_gc (by rfl) ?_
    try simp +decide only [go_sem, hb12, hlt, hb24, hb242, c0, c1, hk, hi3, hl0, h0i, hes, hck, hscl, hs33, hdq, beq_self_eq_true, hb15, hb17]
    refine gcF (cck_w d w s lg) ?_
    try simp +decide only [go_sem, hb12, hlt, hb24, hb242, c0, c1, hk, hi3, hl0, h0i, hes, hck, hscl, hs33, hdq, beq_self_eq_true, hb15, hb17]
    repeat with_reducible refine an_ ?_
    refine vd_gc (by rfl) ?_
    try simp +decide only [go_sem, hb12, hlt, hb24, hb242, c0, c1, hk, hi3, hl0, h0i, hes, hck, hscl, hs33, hdq, beq_self_eq_true, hb15, hb17]
    refine gcF (cck_w ⟨d.nodes.map strip, d.rules, fo, br⟩ w s lg) ?_
    try simp +decide only [go_sem, hb12, hlt, hb24, hb242, c0, c1, hk, hi3, hl0, h0i, hes, hck, hscl, hs33, hdq, beq_self_eq_true, hb15, hb17]
    repeat with_reducible refine an_ ?_
    refine hκ _ _ ?_; clear hκ hξ ξ κ
    refine rt ?_
    refine retE ?_
    simp +decide only [go_sem, resD, resV, hb12, hlt, hb24, hb242, c0, c1, hk, hi3, hl0, h0i, hes, hck, hscl, hs33, hdq, beq_self_eq_true, hb15, hb17]
    all_goals first | rfl | (simp [*]; done)
end Go.Proofs.YtinhjbnljbmbcaaGreat

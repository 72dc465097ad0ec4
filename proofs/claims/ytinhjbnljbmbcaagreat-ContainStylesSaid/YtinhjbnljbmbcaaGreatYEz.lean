/- Contain's laws: the styles. Printed by a tool of our own. -/
import Derived.Test.YtinhjbnljbmbcaaGreatY14
import Derived.Test.YtinhjbnljbmbcaaGreatY13
namespace Go.Proofs.YtinhjbnljbmbcaaGreat
open Go Go.RowKit
set_option linter.unusedSimpArgs false
set_option linter.unusedVariables false
set_option maxHeartbeats 4000000
set_option maxRecDepth 100000
attribute [local go_sem] List.length_map rowAt_n nrow rowAt_t trow rowAt_i irow
attribute [local go_sem] rowAt_e rowAt_tm rowAt_dc rowAt_ru tmrow dcrow rurow
attribute [local go_sem] rowAt_br rowAt_s rowAt_fo rowAt_ve rowAt_g rowAt_k grow krow srow brrow forow dorow verow
attribute [local go_sem] iD_all iD_len rw2_0 rw2_1 rw1_0 Int.toNat_one
attribute [local go_sem] pl_d33 pl_d34 pl_d35 pl_d36 pl_d37 pl_d38 pl_d39 pl_t33 pl_t34 pl_t35 pl_t36 pl_t37 pl_t38 pl_t39 pl_dlt pl_ge pl_len pl_all iD_len iD_all plR plT List.append_assoc firstS_len Nat.zero_add Int.reduceToNat
theorem law4_w (d : Do) (which w s lg : Int) : PCall Tryz.prog (.func 4) [.ag (dorow d), .int .u8 which, .ag [.int .i64 w, .int .i64 s, .int .i64 lg]] (.bool true) := by
 refine PCall.ok fun hok => ?_
 simp only [okAll, D.ok, okRows, and_true, true_and, lim_eq, inR_i64', inR_i32', inR_u8', inR_u16', inR_u64'] at hok
 have hwh : 0 ≤ which ∧ which ≤ 255 := by have := hok.2.1; omega
 refine PCall.le ?_
 refine fn_ Tryz.func4 (by rfl) (by rfl) (rs := [.tmp 6]) (by rfl) (by simp [Tryz.f4]) ?_
 refine sr_ [1, 3, 5] [3, 5] [] fun κ ξ hκ hξ => ?_
 try simp +decide only [go_sem]
 repeat with_reducible refine an_ ?_
 refine hκ _ _ ?_; clear hκ hξ ξ κ
 refine sr_ [1, 3, 5, 7] [] [] fun κ ξ hκ hξ => ?_
 try simp +decide only [go_sem]
 repeat with_reducible refine an_ ?_
 refine callF (head_w) ?_
 try simp +decide only [go_sem]
 repeat with_reducible refine an_ ?_
 refine hκ _ _ ?_; clear hκ hξ ξ κ
 refine sq ?_
 refine sr_ [1, 3, 5, 7, 30] [] [] fun κ ξ hκ hξ => ?_
 try simp +decide only [go_sem]
 repeat with_reducible refine an_ ?_
 refine callF (usb_w _ _ _ _) ?_
 try simp +decide only [go_sem]
 repeat with_reducible refine an_ ?_
 refine hκ _ _ ?_; clear hκ hξ ξ κ
 refine cd_ (fun c0 => ?_) (fun c0 => ?_)
 ·simp only [go_sem] at c0
  refine sr_ [6] [] [] fun κ ξ hκ hξ => ?_
  try simp +decide only [go_sem, c0]
  repeat with_reducible refine an_ ?_
  refine hκ _ _ ?_; clear hκ hξ ξ κ
  refine rt ?_
  refine retE ?_
  simp +decide only [go_sem, resD, resV, c0]
  all_goals first | rfl | (simp [*]; done)
 ·simp only [go_sem] at c0
  have c0x := c0
  obtain ⟨⟨hfew, hd⟩, hr⟩ := c0x
  have hT := treB_true.1 (docB_tre hd).1
  have hl1 := hT.len.1
  have hl4 := hT.len.2
  obtain ⟨i, hk, hi⟩ := which_at hwh hl1
  have hi3 : (i : Int) < (d.nodes.length : Int) := by omega
  have hl0 : (d.nodes.length : Int) ≠ 0 := by omega
  have h0i : (0 : Int) ≤ (i : Int) := by omega
  have hpz := par_zero hT hi
  have hscl := styC_len d (nat d.nodes i).id w s lg
  have hs33 : List.take 33 (styC d (nat d.nodes i).id w s lg).1 = (styC d (nat d.nodes i).id w s lg).1 := List.take_of_length_le (by first | omega | (rw [styC_len]; omega) | (rw [styR_len (by assumption)]; omega))
  refine sk ?_
  refine srd_ [3, 5, 7, 8] [] [] [] fun κ ξ hκ hξ => ?_
  try simp +decide only [go_sem, c0, hk, hi3, hl0, h0i, hscl, hs33]
  repeat with_reducible refine an_ ?_
  intro b8 hb8
  try simp +decide only [go_sem, c0, hk, hi3, hl0, h0i, hscl, hs33, hb8]
  repeat with_reducible refine an_ ?_
  refine hκ _ _ ?_; clear hκ hξ ξ κ
  refine srz_ [(9, [])] [3, 5, 7, 8, 9, 10] [] [] fun κ ξ hκ hξ => ?_
  try simp +decide only [go_sem, c0, hk, hi3, hl0, h0i, hscl, hs33, hb8]
  repeat with_reducible refine an_ ?_
  refine callF (cst_w _ _ _ _ _) ?_
  try simp +decide only [go_sem, c0, hk, hi3, hl0, h0i, hscl, hs33, hb8]
  repeat with_reducible refine an_ ?_
  intro b9 hb9
  try simp +decide only [go_sem, c0, hk, hi3, hl0, h0i, hscl, hs33, hb8, hb9]
  repeat with_reducible refine an_ ?_
  refine hκ _ _ ?_; clear hκ hξ ξ κ
  refine jn (α := Nat) (fun b11 => mk [(3, .el (dorow d)), (5, .el [.int .i64 w, .int .i64 s, .int .i64 lg]), (7, .bool true), (8, .ptr b8 0), (9, .el ((styC d (nat d.nodes i).id w s lg).1.map iD)), (10, .int .i64 (styC d (nat d.nodes i).id w s lg).2), (11, .ptr b11 0), (12, .int .i64 w), (13, .int .i64 (-1))]) (fun b11 => [(b11, .cells (firstS.map iD)), (b8, .cells [.int .i64 (nat d.nodes i).id, .int .i64 (nat d.nodes i).par, .int .i64 (nat d.nodes i).kind, .int .i64 (nat d.nodes i).cls, .str (nat d.nodes i).txt])]) (fun b11 => ¬ b8 = b11) ?_ ?_
  ·refine rgt2 [3, 5, 7, 8, 9, 10, 11, 12, 13] [] [50] [] [0, 1] (.br 2 [3, 4, 5, 6] .fin 3 [] (.br 2 [4, 5, 6] .fin 4 [2, 5, 6] .fin)) (by kernel_rfl) (by kernel_rfl) (Pk.cons rfl (Pk.cons rfl (Pk.nil))) ?_; intro κ ξ hκ hξ
   try simp +decide only [go_sem, c0, hk, hi3, hl0, h0i, hscl, hs33, hb8, hb9]
   repeat with_reducible refine And.intro (by first | assumption | omega | (simp; done) | (simp; omega) | (intro hg; simp +decide only [go_sem, hg]; done) | (intro hg; simp +decide only [go_sem, hg]; omega)) ?_
   refine scallF frst_w ?_
   try simp +decide only [go_sem, c0, hk, hi3, hl0, h0i, hscl, hs33, hb8, hb9]
   repeat with_reducible refine And.intro (by first | assumption | omega | (simp; done) | (simp; omega) | (intro hg; simp +decide only [go_sem, hg]; done) | (intro hg; simp +decide only [go_sem, hg]; omega)) ?_
   refine SET_br (Pk.cons rfl (Pk.cons rfl (Pk.cons rfl (Pk.cons rfl (Pk.cons rfl (Pk.nil)))))) (Pk.cons rfl (Pk.nil)) ?_ ?_
   ·try simp +decide only [go_sem, c0, hk, hi3, hl0, h0i, hscl, hs33, hb8, hb9]
    repeat with_reducible refine And.intro (by first | assumption | omega | (simp; done) | (simp; omega) | (intro hg; simp +decide only [go_sem, hg]; done) | (intro hg; simp +decide only [go_sem, hg]; omega)) ?_
    intro b11 hb11
    try simp +decide only [go_sem, c0, hk, hi3, hl0, h0i, hscl, hs33, hb8, hb9, hb11]
    repeat with_reducible refine And.intro (by first | assumption | omega | (simp; done) | (simp; omega) | (intro hg; simp +decide only [go_sem, hg]; done) | (intro hg; simp +decide only [go_sem, hg]; omega)) ?_
    refine SET_fin ?_
    try simp +decide only [go_sem, c0, hk, hi3, hl0, h0i, hscl, hs33, hb8, hb9, hb11]
    repeat with_reducible refine And.intro (by first | assumption | omega | (simp; done) | (simp; omega) | (intro hg; simp +decide only [go_sem, hg]; done) | (intro hg; simp +decide only [go_sem, hg]; omega)) ?_
    refine hκ _ _ ?_; clear hκ hξ ξ κ
    exact ⟨b11, hb11.1, EnvLe.of_l ⟨rfl, rfl, rfl, rfl, rfl, rfl, rfl, rfl, rfl, trivial⟩, .refl _⟩
   ·try simp +decide only [go_sem, c0, hk, hi3, hl0, h0i, hscl, hs33, hb8, hb9]
    repeat with_reducible refine And.intro (by first | assumption | omega | (simp; done) | (simp; omega) | (intro hg; simp +decide only [go_sem, hg]; done) | (intro hg; simp +decide only [go_sem, hg]; omega)) ?_
    intro b11 hb11
    try simp +decide only [go_sem, c0, hk, hi3, hl0, h0i, hscl, hs33, hb8, hb9, hb11]
    repeat with_reducible refine And.intro (by first | assumption | omega | (simp; done) | (simp; omega) | (intro hg; simp +decide only [go_sem, hg]; done) | (intro hg; simp +decide only [go_sem, hg]; omega)) ?_
    refine SET_br (Pk.cons rfl (Pk.cons rfl (Pk.cons rfl (Pk.cons rfl (Pk.nil))))) (Pk.cons rfl (Pk.cons rfl (Pk.cons rfl (Pk.cons rfl (Pk.nil))))) ?_ ?_
    ·try simp +decide only [go_sem, c0, hk, hi3, hl0, h0i, hscl, hs33, hb8, hb9, hb11]
     repeat with_reducible refine And.intro (by first | assumption | omega | (simp; done) | (simp; omega) | (intro hg; simp +decide only [go_sem, hg]; done) | (intro hg; simp +decide only [go_sem, hg]; omega)) ?_
     refine SET_fin ?_
     try simp +decide only [go_sem, c0, hk, hi3, hl0, h0i, hscl, hs33, hb8, hb9, hb11]
     repeat with_reducible refine And.intro (by first | assumption | omega | (simp; done) | (simp; omega) | (intro hg; simp +decide only [go_sem, hg]; done) | (intro hg; simp +decide only [go_sem, hg]; omega)) ?_
     refine hκ _ _ ?_; clear hκ hξ ξ κ
     exact ⟨b11, hb11.1, EnvLe.of_l ⟨rfl, rfl, rfl, rfl, rfl, rfl, rfl, rfl, rfl, trivial⟩, .refl _⟩
    ·try simp +decide only [go_sem, c0, hk, hi3, hl0, h0i, hscl, hs33, hb8, hb9, hb11]
     repeat with_reducible refine And.intro (by first | assumption | omega | (simp; done) | (simp; omega) | (intro hg; simp +decide only [go_sem, hg]; done) | (intro hg; simp +decide only [go_sem, hg]; omega)) ?_
     refine SET_fin ?_
     try simp +decide only [go_sem, c0, hk, hi3, hl0, h0i, hscl, hs33, hb8, hb9, hb11]
     repeat with_reducible refine And.intro (by first | assumption | omega | (simp; done) | (simp; omega) | (intro hg; simp +decide only [go_sem, hg]; done) | (intro hg; simp +decide only [go_sem, hg]; omega)) ?_
     refine hκ _ _ ?_; clear hκ hξ ξ κ
     exact ⟨b11, hb11.1, EnvLe.of_l ⟨rfl, rfl, rfl, rfl, rfl, rfl, rfl, rfl, rfl, trivial⟩, .refl _⟩
  ·rintro b11 hb11
   refine jn (α := Pl) (fun q => mk [(3, .el (dorow d)), (5, .el [.int .i64 w, .int .i64 s, .int .i64 lg]), (7, .bool true), (8, .ptr b8 0), (9, .el ((styC d (nat d.nodes i).id w s lg).1.map iD)), (10, .int .i64 (styC d (nat d.nodes i).id w s lg).2), (11, .ptr b11 0), (12, .int .i64 w), (13, .int .i64 (-1))]) (fun q => [(b11, .cells (q.st.map iD)), (b8, .cells [.int .i64 (nat d.nodes i).id, .int .i64 (nat d.nodes i).par, .int .i64 (nat d.nodes i).kind, .int .i64 (nat d.nodes i).cls, .str (nat d.nodes i).txt])]) (fun q => fndR d (nat d.nodes i).id w s lg = (plStep d w s lg q (nat d.nodes i).id, 0) ∧ q.st.length = 33) ?_ ?_
   ·refine sr_ [3, 5, 7, 8, 9, 10, 11, 12, 13, 55] [] [] fun κ ξ hκ hξ => ?_
    try simp +decide only [go_sem, c0, hk, hi3, hl0, h0i, hscl, hs33, hb8, hb9, hb11]
    repeat with_reducible refine an_ ?_
    refine hκ _ _ ?_; clear hκ hξ ξ κ
    refine cd_ (fun c1 => ?_) (fun c1 => ?_)
    ·simp only [go_sem] at c1
     have hp : 0 ≤ pix d.nodes i := by
      rcases Int.lt_or_le (pix d.nodes i) 0 with h | h
      ·exact absurd (hpz.2 (by omega)) c1
      ·exact h
     have hpar := par_id hi hp
     have hjl := styC_len d (nat d.nodes (pix d.nodes i).toNat).id w s lg
     have hj33 : List.take 33 (styC d (nat d.nodes (pix d.nodes i).toNat).id w s lg).1 = (styC d (nat d.nodes (pix d.nodes i).toNat).id w s lg).1 := List.take_of_length_le (by first | omega | (rw [styC_len]; omega) | (rw [styR_len (by assumption)]; omega))
     refine srz_ [(14, [])] [3, 5, 7, 8, 9, 10, 11, 12, 13, 14, 15] [] [] fun κ ξ hκ hξ => ?_
     try simp +decide only [go_sem, c0, hk, hi3, hl0, h0i, hscl, hs33, hb8, hb9, hb11, c1, hpar, hjl, hj33, firstS_end]
     repeat with_reducible refine an_ ?_
     refine callF (cst_w _ _ _ _ _) ?_
     try simp +decide only [go_sem, c0, hk, hi3, hl0, h0i, hscl, hs33, hb8, hb9, hb11, c1, hpar, hjl, hj33, firstS_end]
     repeat with_reducible refine an_ ?_
     intro b14 hb14
     try simp +decide only [go_sem, c0, hk, hi3, hl0, h0i, hscl, hs33, hb8, hb9, hb11, c1, hpar, hjl, hj33, firstS_end, hb14]
     repeat with_reducible refine an_ ?_
     refine hκ _ _ ?_; clear hκ hξ ξ κ
     refine sq ?_
     refine sr_ [3, 5, 7, 8, 9, 10, 11, 12, 13, 14, 15, 65] [] [] fun κ ξ hκ hξ => ?_
     try simp +decide only [go_sem, c0, hk, hi3, hl0, h0i, hscl, hs33, hb8, hb9, hb11, c1, hpar, hjl, hj33, firstS_end, hb14]
     repeat with_reducible refine an_ ?_
     refine hκ _ _ ?_; clear hκ hξ ξ κ
     refine cd_ (fun c2 => ?_) (fun c2 => ?_)
     ·simp only [go_sem] at c2
      obtain ⟨hb1, hb2⟩ := up_bad hd hr hi hp c2
      refine sr_ [6] [] [(1, 67), (5, 71)] fun κ ξ hκ hξ => ?_
      try simp +decide only [go_sem, c0, hk, hi3, hl0, h0i, hscl, hs33, hb8, hb9, hb11, c1, hpar, hjl, hj33, firstS_end, hb14, c2, hb1, hb2]
      repeat with_reducible refine an_ ?_
      refine hκ _ _ ?_; clear hκ hξ ξ κ
      refine rt ?_
      refine retE ?_
      simp +decide only [go_sem, resD, resV, c0, hk, hi3, hl0, h0i, hscl, hs33, hb8, hb9, hb11, c1, hpar, hjl, hj33, firstS_end, hb14, c2, hb1, hb2]
      all_goals first | rfl | (simp [*]; done)
     ·simp only [go_sem] at c2
      refine sk ?_
      refine rr_ [3, 5, 7, 8, 9, 10, 11, 12, 13] [] [] fun κ ξ hκ hξ => ?_
      try simp +decide only [go_sem, c0, hk, hi3, hl0, h0i, hscl, hs33, hb8, hb9, hb11, c1, hpar, hjl, hj33, firstS_end, hb14, c2]
      repeat with_reducible refine an_ ?_
      refine hκ _ _ ?_; clear hκ hξ ξ κ
      obtain ⟨hF, hst, hlq⟩ := reach hd hr hi hp c2
      refine ⟨_, ⟨hF, hlq⟩, EnvLe.of_l ⟨rfl, rfl, rfl, rfl, rfl, rfl, rfl, rfl, rfl, trivial⟩, ?_⟩
      rw [← hst, ← hpar]
      exact .refl _
    ·simp only [go_sem] at c1
     have hp := hpz.1 c1
     refine sk ?_
     refine ⟨plF w, ⟨fnd_root hd hr hi hp, firstS_len⟩, EnvLe.of_l ⟨rfl, rfl, rfl, rfl, rfl, rfl, rfl, rfl, rfl, trivial⟩, ?_⟩
     first | exact .refl _ | exact .cons _ (.refl _)
   ·rintro q ⟨hF, hlq⟩
    have hsi := sty_step hd hr hi hF
    obtain ⟨hbe, hbt, hbf⟩ := box_fact hd hr hi hF
    have hrm : rmC d w s lg (chn d.nodes i) = q.room := by rw [← room_rm hd hr i hi (by rw [hF]), hF]; rfl
    have hul := upC_len d.nodes i
    have hcle := chn_len d.nodes i
    have hd30 := hT.deep i hi
    have hrl := styR_len (l := d.nodes) (rs := d.rules) (x := (nat d.nodes i).id) (w := w) (s := s) (lg := lg) (wd := q.room) (bx := q.wide) hlq
    have hq33 : List.take 33 q.st = q.st := List.take_of_length_le (by first | omega | (rw [styC_len]; omega) | (rw [styR_len (by assumption)]; omega))
    have hr33 : List.take 33 (styR d.nodes d.rules (nat d.nodes i).id w s lg q.st q.room q.wide).1 = (styR d.nodes d.rules (nat d.nodes i).id w s lg q.st q.room q.wide).1 := List.take_of_length_le (by first | omega | (rw [styC_len]; omega) | (rw [styR_len (by assumption)]; omega))
    have hdq := deq33 hrl hrl
    refine jn (α := Unit) (fun _ => mk [(3, .el (dorow d)), (5, .el [.int .i64 w, .int .i64 s, .int .i64 lg]), (7, .bool true), (8, .ptr b8 0), (9, .el ((styC d (nat d.nodes i).id w s lg).1.map iD)), (10, .int .i64 (styC d (nat d.nodes i).id w s lg).2), (11, .ptr b11 0), (12, .int .i64 q.room), (13, .int .i64 (-1))]) (fun _ => [(b11, .cells (q.st.map iD)), (b8, .cells [.int .i64 (nat d.nodes i).id, .int .i64 (nat d.nodes i).par, .int .i64 (nat d.nodes i).kind, .int .i64 (nat d.nodes i).cls, .str (nat d.nodes i).txt])]) (fun _ => True) ?_ ?_
    ·refine sr_ [3, 5, 7, 8, 9, 10, 11, 12, 13, 81, 82, 83] [] [] fun κ ξ hκ hξ => ?_
     try simp +decide only [go_sem, c0, hk, hi3, hl0, h0i, hscl, hs33, hb8, hb9, hb11, hsi, hbe, hlq, hrl, hq33, hr33, hdq]
     repeat with_reducible refine an_ ?_
     refine callF (abo_w _ _ i hT hi) ?_
     try simp +decide only [go_sem, c0, hk, hi3, hl0, h0i, hscl, hs33, hb8, hb9, hb11, hsi, hbe, hlq, hrl, hq33, hr33, hdq]
     repeat with_reducible refine an_ ?_
     refine hκ _ _ ?_; clear hκ hξ ξ κ
     refine bl ?_
     refine lp (α := Nat) (fun m => mk [(3, .el (dorow d)), (5, .el [.int .i64 w, .int .i64 s, .int .i64 lg]), (7, .bool true), (8, .ptr b8 0), (9, .el ((styC d (nat d.nodes i).id w s lg).1.map iD)), (10, .int .i64 (styC d (nat d.nodes i).id w s lg).2), (11, .ptr b11 0), (12, .int .i64 w), (13, .int .i64 (-1)), (81, .sl 1 ((upC d.nodes i).map irow) .no), (82, .int .i64 (upC d.nodes i).length), (83, .int .i64 m)]) (fun _ => [(b11, .cells (q.st.map iD)), (b8, .cells [.int .i64 (nat d.nodes i).id, .int .i64 (nat d.nodes i).par, .int .i64 (nat d.nodes i).kind, .int .i64 (nat d.nodes i).cls, .str (nat d.nodes i).txt])]) (fun m => m ≤ (upC d.nodes i).length ∧ rmC d w s lg (chn d.nodes i) = rmC d w s lg ((chn d.nodes i).drop m)) (fun m => (upC d.nodes i).length - m) 0 ⟨⟨by omega, rfl⟩, EnvLe.of_eq (by first | rfl | (rw [hsi]; rfl)), .refl _⟩ ?_
     rintro m ⟨hm, hdm⟩
     refine sr_ [3, 5, 7, 8, 9, 10, 11, 12, 13, 81, 82, 83, 84] [] [] fun κ ξ hκ hξ => ?_
     try simp +decide only [go_sem, c0, hk, hi3, hl0, h0i, hscl, hs33, hb8, hb9, hb11, hsi, hbe, hlq, hrl, hq33, hr33, hdq]
     repeat with_reducible refine an_ ?_
     refine hκ _ _ ?_; clear hκ hξ ξ κ
     refine sq ?_
     refine cd_ (fun c3 => ?_) (fun c3 => ?_)
     ·simp only [go_sem] at c3
      have hc0 := (show m < (chn d.nodes i).length by have := upC_len d.nodes i; omega)
      obtain ⟨c, hc⟩ : ∃ c, (chn d.nodes i)[m]? = some c := ⟨_, List.getElem?_eq_getElem hc0⟩
      have hcl : c < d.nodes.length := by have := chn_mem (List.mem_of_getElem? hc); omega
      have hux : iat (upC d.nodes i) m = (nat d.nodes c).id := by
       unfold upC iat
       rw [List.getD_eq_getElem?_getD, List.getElem?_map, hc]; rfl
      refine sk ?_
      refine sq ?_
      refine bl ?_
      refine sr_ [3, 5, 7, 8, 9, 10, 11, 12, 13, 17, 81, 82, 83] [] [] fun κ ξ hκ hξ => ?_
      try simp +decide only [go_sem, c0, hk, hi3, hl0, h0i, hscl, hs33, hb8, hb9, hb11, hsi, hbe, hlq, hrl, hq33, hr33, hdq, c3, hux]
      repeat with_reducible refine an_ ?_
      refine hκ _ _ ?_; clear hκ hξ ξ κ
      refine sr_ [3, 5, 7, 8, 9, 10, 11, 12, 13, 18, 19, 81, 82, 83] [] [] fun κ ξ hκ hξ => ?_
      try simp +decide only [go_sem, c0, hk, hi3, hl0, h0i, hscl, hs33, hb8, hb9, hb11, hsi, hbe, hlq, hrl, hq33, hr33, hdq, c3, hux]
      repeat with_reducible refine an_ ?_
      refine callF (inr_w _ _ _ _ _) ?_
      try simp +decide only [go_sem, c0, hk, hi3, hl0, h0i, hscl, hs33, hb8, hb9, hb11, hsi, hbe, hlq, hrl, hq33, hr33, hdq, c3, hux]
      repeat with_reducible refine an_ ?_
      refine hκ _ _ ?_; clear hκ hξ ξ κ
      refine sr_ [3, 5, 7, 8, 9, 10, 11, 12, 13, 18, 81, 82, 83, 95] [] [] fun κ ξ hκ hξ => ?_
      try simp +decide only [go_sem, c0, hk, hi3, hl0, h0i, hscl, hs33, hb8, hb9, hb11, hsi, hbe, hlq, hrl, hq33, hr33, hdq, c3, hux]
      repeat with_reducible refine an_ ?_
      refine hκ _ _ ?_; clear hκ hξ ξ κ
      refine cd_ (fun c4 => ?_) (fun c4 => ?_)
      ·try simp only [go_sem] at c4
       refine sr_ [3, 5, 7, 8, 9, 10, 11, 12, 13] [] [] fun κ ξ hκ hξ => ?_
       try simp +decide only [go_sem, c0, hk, hi3, hl0, h0i, hscl, hs33, hb8, hb9, hb11, hsi, hbe, hlq, hrl, hq33, hr33, hdq, c3, hux, c4]
       repeat with_reducible refine an_ ?_
       refine hκ _ _ ?_; clear hκ hξ ξ κ
       refine ex ?_
       refine ⟨(), trivial, EnvLe.of_l ?_, .refl _⟩
       have e : (innC d (nat d.nodes c).id w s lg).1 = q.room := by rw [← hrm, hdm, rm_drop hc, if_pos c4]
       refine ⟨rfl, rfl, rfl, rfl, ?_, ?_, rfl, ?_, ?_, trivial⟩ <;> first | rfl | (rw [hsi]; rfl) | (rw [e]; rfl) | (rw [← e]; rfl)
      ·try simp only [go_sem] at c4
       refine sk ?_
       refine rr_ [3, 5, 7, 8, 9, 10, 11, 12, 13, 81, 82, 83] [] [] fun κ ξ hκ hξ => ?_
       try simp +decide only [go_sem, c0, hk, hi3, hl0, h0i, hscl, hs33, hb8, hb9, hb11, hsi, hbe, hlq, hrl, hq33, hr33, hdq, c3, hux, c4]
       repeat with_reducible refine an_ ?_
       refine hκ _ _ ?_; clear hκ hξ ξ κ
       refine ⟨m + 1, ⟨⟨by omega, by rw [hdm, rm_drop hc, if_neg c4]⟩, by omega⟩, EnvLe.of_eq (by rw [w64 (n := (m : Int) + 1) (by omega)]; first | rfl | (rw [hsi]; rfl)), .refl _⟩
     ·simp only [go_sem] at c3
      refine ex ?_
      refine ⟨(), trivial, EnvLe.of_l ?_, .refl _⟩
      have e : w = q.room := by rw [← hrm, hdm, List.drop_eq_nil_of_le (by omega), rmC]
      refine ⟨rfl, rfl, rfl, rfl, ?_, ?_, rfl, ?_, ?_, trivial⟩ <;> first | rfl | (rw [hsi]; rfl) | (rw [e]; rfl) | (rw [← e]; rfl)
    ·rintro _ _
     refine sr_ [3, 5, 7, 8, 9, 10, 11, 12, 13, 21, 22, 23] [] [] fun κ ξ hκ hξ => ?_
     try simp +decide only [go_sem, c0, hk, hi3, hl0, h0i, hscl, hs33, hb8, hb9, hb11, hsi, hbe, hlq, hrl, hq33, hr33, hdq]
     repeat with_reducible refine an_ ?_
     refine callF (box_w _ _ _ _ _) ?_
     try simp +decide only [go_sem, c0, hk, hi3, hl0, h0i, hscl, hs33, hb8, hb9, hb11, hsi, hbe, hlq, hrl, hq33, hr33, hdq]
     repeat with_reducible refine an_ ?_
     refine hκ _ _ ?_; clear hκ hξ ξ κ
     refine sq ?_
     refine sr_ [3, 5, 7, 8, 9, 10, 11, 12, 13, 21, 22, 109] [] [] fun κ ξ hκ hξ => ?_
     try simp +decide only [go_sem, c0, hk, hi3, hl0, h0i, hscl, hs33, hb8, hb9, hb11, hsi, hbe, hlq, hrl, hq33, hr33, hdq]
     repeat with_reducible refine an_ ?_
     refine hκ _ _ ?_; clear hκ hξ ξ κ
     refine cd_ (fun c5 => ?_) (fun c5 => ?_)
     ·exfalso
      simp only [go_sem] at c5
     ·skip
      refine sk ?_
      refine jn (α := Unit) (fun _ => mk [(3, .el (dorow d)), (5, .el [.int .i64 w, .int .i64 s, .int .i64 lg]), (7, .bool true), (8, .ptr b8 0), (9, .el ((styC d (nat d.nodes i).id w s lg).1.map iD)), (10, .int .i64 (styC d (nat d.nodes i).id w s lg).2), (11, .ptr b11 0), (12, .int .i64 q.room), (13, .int .i64 q.wide)]) (fun _ => [(b11, .cells (q.st.map iD)), (b8, .cells [.int .i64 (nat d.nodes i).id, .int .i64 (nat d.nodes i).par, .int .i64 (nat d.nodes i).kind, .int .i64 (nat d.nodes i).cls, .str (nat d.nodes i).txt])]) (fun _ => True) ?_ ?_
      ·refine sr_ [3, 5, 7, 8, 9, 10, 11, 12, 13, 21, 110] [] [] fun κ ξ hκ hξ => ?_
       try simp +decide only [go_sem, c0, hk, hi3, hl0, h0i, hscl, hs33, hb8, hb9, hb11, hsi, hbe, hlq, hrl, hq33, hr33, hdq, c5]
       repeat with_reducible refine an_ ?_
       refine hκ _ _ ?_; clear hκ hξ ξ κ
       refine cd_ (fun c6 => ?_) (fun c6 => ?_)
       ·try simp only [go_sem] at c6
        refine rr_ [3, 5, 7, 8, 9, 10, 11, 12, 13] [] [] fun κ ξ hκ hξ => ?_
        try simp +decide only [go_sem, c0, hk, hi3, hl0, h0i, hscl, hs33, hb8, hb9, hb11, hsi, hbe, hlq, hrl, hq33, hr33, hdq, c5, c6]
        repeat with_reducible refine an_ ?_
        refine hκ _ _ ?_; clear hκ hξ ξ κ
        refine ⟨(), trivial, EnvLe.of_l ?_, .refl _⟩
        have e := hbt c6
        refine ⟨rfl, rfl, rfl, rfl, ?_, ?_, rfl, ?_, ?_, trivial⟩ <;> first | rfl | (rw [hsi]; rfl) | (rw [e]; rfl) | (rw [← e]; rfl)
       ·try simp only [go_sem] at c6
        refine sk ?_
        refine ⟨(), trivial, EnvLe.of_l ?_, .refl _⟩
        have e := hbf c6
        refine ⟨rfl, rfl, rfl, rfl, ?_, ?_, rfl, ?_, ?_, trivial⟩ <;> first | rfl | (rw [hsi]; rfl) | (rw [e]; rfl) | (rw [← e]; rfl)
      ·rintro _ _
       refine srz_ [(24, [])] [7, 9, 10, 24, 25] [] [] fun κ ξ hκ hξ => ?_
       try simp +decide only [go_sem, c0, hk, hi3, hl0, h0i, hscl, hs33, hb8, hb9, hb11, hsi, hbe, hlq, hrl, hq33, hr33, hdq, c5]
       repeat with_reducible refine an_ ?_
       refine callF (sty_w _ _ _ _ _ _ _ _ (by assumption)) ?_
       try simp +decide only [go_sem, c0, hk, hi3, hl0, h0i, hscl, hs33, hb8, hb9, hb11, hsi, hbe, hlq, hrl, hq33, hr33, hdq, c5]
       repeat with_reducible refine an_ ?_
       intro b24 hb24
       try simp +decide only [go_sem, c0, hk, hi3, hl0, h0i, hscl, hs33, hb8, hb9, hb11, hsi, hbe, hlq, hrl, hq33, hr33, hdq, c5, hb24]
       repeat with_reducible refine an_ ?_
       refine hκ _ _ ?_; clear hκ hξ ξ κ
       refine sr_ [6] [] [(1, 124), (6, 129)] fun κ ξ hκ hξ => ?_
       try simp +decide only [go_sem, c0, hk, hi3, hl0, h0i, hscl, hs33, hb8, hb9, hb11, hsi, hbe, hlq, hrl, hq33, hr33, hdq, c5, hb24]
       repeat with_reducible refine an_ ?_
       refine hκ _ _ ?_; clear hκ hξ ξ κ
       refine rt ?_
       refine retE ?_
       simp +decide only [go_sem, resD, resV, c0, hk, hi3, hl0, h0i, hscl, hs33, hb8, hb9, hb11, hsi, hbe, hlq, hrl, hq33, hr33, hdq, c5, hb24]
       all_goals first | rfl | (simp [*]; done)
end Go.Proofs.YtinhjbnljbmbcaaGreat

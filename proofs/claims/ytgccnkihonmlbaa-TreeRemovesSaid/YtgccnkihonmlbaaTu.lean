/- The walk of the law TreeRemoves. Printed by a tool of our own. -/
import Derived.Test.YtgccnkihonmlbaaTp
import Derived.Test.YtgccnkihonmlbaaTt
namespace Go.Proofs.Ytgccnkihonmlbaa
open Go Go.RowKit
set_option linter.unusedSimpArgs false
set_option linter.unusedVariables false
set_option maxHeartbeats 4000000
set_option maxRecDepth 100000
attribute [local go_sem ↓] vo_nil vK_eq vo_q vo_g vo_n vo_c vd_nil dK_eq eK_eq vd_q vd_g vd_n vd_st vd_c cgs_call cgs_builtin
attribute [local go_sem] Ext_refl Ext_cons
attribute [local go_sem] quiet_move quiet_assign quiet_pick quiet_binOp quiet_unOp quiet_convert quiet_field quiet_fieldAddr quiet_indexAddr quiet_index quiet_load quiet_lookup quiet_extract quiet_build quiet_makeInterface quiet_makeFunc quiet_slice quiet_nilCheck quiet_alloc isCall_alloc quiet_box isCall_box quiet_buildSlice isCall_buildSlice quiet_store isCall_store quiet_range isCall_range quiet_next isCall_next quiet_makeSlice isCall_makeSlice quiet_panic isCall_panic quiet_len quiet_cap quiet_min quiet_max quiet_append isCall_append quiet_copy isCall_copy quiet_delete isCall_delete nqk_alloc nqk_box nqk_buildSlice nqk_range nqk_next nqk_makeSlice nqk_panic nqk_makeMap nqk_entry nqk_append nqk_copy nqk_delete isSt_alloc isSt_box isSt_buildSlice isSt_range isSt_next isSt_makeSlice isSt_panic isSt_makeMap isSt_entry isSt_store isSt_mapUpdate isSt_insert isSt_append isSt_copy isSt_delete quiet_makeMap isCall_makeMap quiet_mapUpdate isCall_mapUpdate quiet_insert isCall_insert
attribute [local go_sem] argEnv qev opd put_some put_none set_at mk_cons mk_nil prune_eq D.ofV ofC_int ofC_nil ofC_str ofC_nilmap ofC_nilfunc ofC_nilptr true_and ofC_bool bop isSh ibop Bool.false_eq_true if_false if_true and_self D.core D.cg qpick isB bof gval look Option.bind_some opc cgs Op.operands List.all_cons List.all_nil Bool.and_true and_true true_imp_iff imp_self false_imp_iff beq_true beq_false beq_iff_eq decide_eq_true_eq List.map_cons List.map_nil Bool.not_eq_true' decide_eq_false_iff_not gof gq gev cond_some Option.isSome_some Bool.or_eq_true Bool.and_eq_true Bool.or_eq_false_iff Bool.and_eq_false_iff Bool.not_eq_true Bool.not_eq_false Bool.not_eq_false' ne_eq implies_true forall_const Bool.cond_true_left Bool.cond_false_right not_false_eq_true not_true_eq_false Int.toNat_natCast Int.toNat_zero
attribute [local go_sem] qbuiltin qlook ments foldI mget mput keqD keyOK lookD_s lookD_n lookD_fs lookD_fn nput agop deqF deq1 nappZ cond_true cond_false Option.getD_some Option.getD_none Option.isSome_none ite_self qindex qslice qconv qextract qfield qfaddr qiaddr qload quop qiface qbuild qnil ldC ldD ob List.drop_succ_cons take_mapr drop_mapr List.drop_zero List.take_succ_cons List.take_zero List.length_cons List.length_nil List.getElem?_cons_zero List.getElem?_cons_succ Option.map_some Option.map_none List.head?_cons
attribute [local go_sem] nev isImm List.contains_cons List.contains_nil Bool.or_false Bool.or_true D.flat D.cellsOf D.isCell Bool.or_self Bool.and_self szOf nstore Store.get Store.upd putCells nk_cons not_or FZ frzE_mk frzL inL frz Store.del or_false boxCells List.headD_cons List.headD_nil List.nil_append List.append_nil List.cons_append List.drop_nil false_and and_false false_or true_or or_true Bool.false_and Bool.true_and Bool.false_or Bool.true_or Bool.and_false setPs lim_eq chunk zrep pls_eq plsF fillD resAll shop sbop bbop decide_true decide_false Bool.not_true Bool.not_false eq_self
attribute [local go_sem] tf0 tf1 tf2 tf3 tf4 tf5 tf6 tf7 tf8 tf9 tf10 tf11 tf12 tf13 tf14 tf15 tf16 tf17 tf18 tf19 tf20 tf21 tf22 tf23 tf24 tf25 tf26 tf27 tf28 tf29 tf30 tf31 tf32 tf33 tf34 tf35 tf36 tf37 tf38 tf39 tf40 tf41 tf42 tf43 tf44 tf45 tf46 tf47 tf48 tf49 tf50 tf51 tf52 tf53 tf54 tf55 tf56 tf57 tf58 tf59 tf60 tf61 tf62 tf63 tf64 tf65 tf66 tf67 tf68 tf69 tf70 tf71 tf72 tf73 tf74 tf75 tf76 tf77 tf78 tf79 tf80 tf81 tf82 tf83 tf84 tf85 tf86 tf87 tf88 tf89 tf90 tf91 tf92 tf93 tf94 tf95 tf96 tf97 tf98 tf99 tf100 tf101 tf102 tf103 tf104 tf105 tf106 tf107 tf108 tf109 tf110 tf111 tf112 tf113 tf114 tf115 tf116 tf117 tf118 tf119 tf120 tf121 tf122 tf123 tf124 tf125 tf126 tf127 tf128 tf129 tf130 tf131 tf132 tf133 tf134 tf135 tf136 tf137 tf138 tf139 tf140 tf141 tf142 tf143 tf144 tf145 tf146 tf147 tf148 tf149 tf150 tf151 tf152 tf153 tf154 tf155 tf156 tf157 tf158 tf159 tf160 tf161 tf162 tf163 tf164 tf165 tf166 tf167 tf168 tf169 tf170 tf171 tf172 tf173 tf174 tf175 tf176 tf177 tf178 tf179 tf180 tf181 tf182 tf183 tf184 tf185 tf186 tf187 tf188 tf189 tf190 tf191 tf192 tf193 tf194 tf195 tf196 tf197 tf198 tf199 tf200 tf201 tf202 tf203 tf204 tf205 tf206 tf207 tf208 tf209 tf210 tf211 tf212 tf213 tf214 tf215 tf216 tf217 tf218 tf219 tf220 tf221 tf222 tf223 tf224 tf225 tf226 tf227 tf228 tf229 tf230 tf231 tf232 tf233 tf234 tf235 tf236 tf237 tf238 tf239 tf240 tf241 tf242 tf243 tf244 tf245 tf246 tf247 tf248 tf249 tf250 tf251 tf252
attribute [local go_sem] List.length_map rowAt_n nrow rowAt_t trow rowAt_i irow
attribute [local go_sem] pl_getF pl_lookF pl_lookF' foldI
theorem law14_w (l : List Nd) (which : Int) : PCall Try.prog (.func 14) [.sl 5 (l.map nrow) .no, .int .u8 which] (.bool true) := by
  refine PCall.ok fun hok => ?_
  simp only [okAll, D.ok, okRows, and_true, true_and, lim_eq, inR_i64', inR_i32', inR_u8', inR_u16', inR_u64'] at hok
  obtain ⟨-, hwh⟩ := hok
  refine PCall.le ?_
  refine fn_ Try.func14 (by rfl) (by rfl) (rs := [.tmp 4]) (by rfl) (by simp [Try.f14]) ?_
  refine sq ?_
  refine rg [0, 1] [] [] (by kernel_rfl) ?_; intro κ ξ hκ hξ
  try simp (config := { decide := true }) only [go_sem, Nat.reduceMul, Nat.reduceAdd, Nat.reduceBEq, cond_false, decide_true]
  repeat with_reducible refine And.intro (by first | assumption | omega | (simp; done) | (simp; omega) | (intro hg; simp (config := { decide := true }) only [go_sem, hg]; done) | (intro hg; simp (config := { decide := true }) only [go_sem, hg]; omega)) ?_
  refine hκ _ _ ?_; clear hκ hξ ξ κ
  refine sq ?_
  refine rg [0, 1, 5] [] [] (by kernel_rfl) ?_; intro κ ξ hκ hξ
  try simp (config := { decide := true }) only [go_sem, Nat.reduceMul, Nat.reduceAdd, Nat.reduceBEq, cond_false, decide_true]
  repeat with_reducible refine And.intro (by first | assumption | omega | (simp; done) | (simp; omega) | (intro hg; simp (config := { decide := true }) only [go_sem, hg]; done) | (intro hg; simp (config := { decide := true }) only [go_sem, hg]; omega)) ?_
  refine callF (headN_w) ?_
  try simp (config := { decide := true }) only [go_sem, Nat.reduceMul, Nat.reduceAdd, Nat.reduceBEq, cond_false, decide_true]
  repeat with_reducible refine And.intro (by first | assumption | omega | (simp; done) | (simp; omega) | (intro hg; simp (config := { decide := true }) only [go_sem, hg]; done) | (intro hg; simp (config := { decide := true }) only [go_sem, hg]; omega)) ?_
  refine hκ _ _ ?_; clear hκ hξ ξ κ
  refine sq ?_
  refine sq ?_
  refine rg [0, 1, 5, 17] [] [] (by kernel_rfl) ?_; intro κ ξ hκ hξ
  try simp (config := { decide := true }) only [go_sem, Nat.reduceMul, Nat.reduceAdd, Nat.reduceBEq, cond_false, decide_true]
  repeat with_reducible refine And.intro (by first | assumption | omega | (simp; done) | (simp; omega) | (intro hg; simp (config := { decide := true }) only [go_sem, hg]; done) | (intro hg; simp (config := { decide := true }) only [go_sem, hg]; omega)) ?_
  refine callF (usaN_w _ _) ?_
  try simp (config := { decide := true }) only [go_sem, Nat.reduceMul, Nat.reduceAdd, Nat.reduceBEq, cond_false, decide_true]
  repeat with_reducible refine And.intro (by first | assumption | omega | (simp; done) | (simp; omega) | (intro hg; simp (config := { decide := true }) only [go_sem, hg]; done) | (intro hg; simp (config := { decide := true }) only [go_sem, hg]; omega)) ?_
  refine hκ _ _ ?_; clear hκ hξ ξ κ
  refine cd (by rfl) (fun c0 => ?_) (fun c0 => ?_)
  · skip
    refine sq ?_
    refine rg [4] [] [] (by kernel_rfl) ?_; intro κ ξ hκ hξ
    try simp (config := { decide := true }) only [go_sem, Nat.reduceMul, Nat.reduceAdd, Nat.reduceBEq, cond_false, decide_true, c0]
    repeat with_reducible refine And.intro (by first | assumption | omega | (simp; done) | (simp; omega) | (intro hg; simp (config := { decide := true }) only [go_sem, hg]; done) | (intro hg; simp (config := { decide := true }) only [go_sem, hg]; omega)) ?_
    refine hκ _ _ ?_; clear hκ hξ ξ κ
    refine rt ?_
    refine retE ?_
    simp (config := { decide := true }) only [go_sem, resD, resV, decide_true, c0]
    
  · obtain ⟨h60, hv⟩ := Bool.and_eq_true_iff.1 (show (decide (l.length ≤ 60) && treB l) = true by simpa using c0)
    have hl60 := of_decide_eq_true h60
    have hT := treB_true.1 hv
    have hl1 := hT.len.1
    obtain ⟨i, hk, hil⟩ : ∃ i : Nat, (IntKind.wrap .i64 which).tmod (l.length : Int) = i ∧ i < l.length := by
      rw [w64 (n := which) (by omega), Int.tmod_eq_emod_of_nonneg hwh.1]
      have h1 := Int.emod_nonneg which (b := (l.length : Int)) (by omega)
      have h2 := Int.emod_lt_of_pos which (b := (l.length : Int)) (by omega)
      exact ⟨(which % (l.length : Int)).toNat, by omega, by omega⟩
    have hil3 : (i : Int) < (l.length : Int) := by omega
    have hl0 : (l.length : Int) ≠ 0 := by omega
    have h0i : (0 : Int) ≤ (i : Int) := by omega
    have h0l : ((0 : Nat) : Int) < (l.length : Int) := by omega
    have h0l2 : (0 : Int) < (l.length : Int) := by omega
    have hge : gerr l (nat l i).id = 0 := by
      have hf := fm_id (hT.form i (by omega))
      exact gerr_zero.2 ⟨hv, by simp [idB]; omega, by rw [idx_self hT (by omega)]; omega⟩
    have hfbi : idB (nat l i).id = true := by
      have hf := fm_id (hT.form i (by omega))
      simp [idB]; omega
    have hfxi : idx l (nat l i).id = (i : Int) := idx_self hT (by omega)
    have hffi : fi l (nat l i).id = (i : Int) := by unfold fi; rw [hfxi, if_pos (by omega)]
    refine sk ?_
    refine sq ?_
    refine rg [0, 5, 6] [] [] (by kernel_rfl) ?_; intro κ ξ hκ hξ
    try simp (config := { decide := true }) only [go_sem, Nat.reduceMul, Nat.reduceAdd, Nat.reduceBEq, cond_false, decide_true, c0, hv, hk, hil3, hl0, h0i, h0l, h0l2, hge, hfbi, hfxi, hffi, Int.toNat_natCast]
    repeat with_reducible refine And.intro (by first | assumption | omega | (simp; done) | (simp; omega) | (intro hg; simp (config := { decide := true }) only [go_sem, hg]; done) | (intro hg; simp (config := { decide := true }) only [go_sem, hg]; omega)) ?_
    refine hκ _ _ ?_; clear hκ hξ ξ κ
    refine sq ?_
    refine rg [0, 5, 6, 7, 8] [] [] (by kernel_rfl) ?_; intro κ ξ hκ hξ
    try simp (config := { decide := true }) only [go_sem, Nat.reduceMul, Nat.reduceAdd, Nat.reduceBEq, cond_false, decide_true, c0, hv, hk, hil3, hl0, h0i, h0l, h0l2, hge, hfbi, hfxi, hffi, Int.toNat_natCast]
    repeat with_reducible refine And.intro (by first | assumption | omega | (simp; done) | (simp; omega) | (intro hg; simp (config := { decide := true }) only [go_sem, hg]; done) | (intro hg; simp (config := { decide := true }) only [go_sem, hg]; omega)) ?_
    refine callF (trm_w _ _ _) ?_
    try simp (config := { decide := true }) only [go_sem, Nat.reduceMul, Nat.reduceAdd, Nat.reduceBEq, cond_false, decide_true, c0, hv, hk, hil3, hl0, h0i, h0l, h0l2, hge, hfbi, hfxi, hffi, Int.toNat_natCast]
    repeat with_reducible refine And.intro (by first | assumption | omega | (simp; done) | (simp; omega) | (intro hg; simp (config := { decide := true }) only [go_sem, hg]; done) | (intro hg; simp (config := { decide := true }) only [go_sem, hg]; omega)) ?_
    refine hκ _ _ ?_; clear hκ hξ ξ κ
    refine sq ?_
    refine sq ?_
    refine rg [0, 5, 6, 7, 8, 35] [] [] (by kernel_rfl) ?_; intro κ ξ hκ hξ
    try simp (config := { decide := true }) only [go_sem, Nat.reduceMul, Nat.reduceAdd, Nat.reduceBEq, cond_false, decide_true, c0, hv, hk, hil3, hl0, h0i, h0l, h0l2, hge, hfbi, hfxi, hffi, Int.toNat_natCast]
    repeat with_reducible refine And.intro (by first | assumption | omega | (simp; done) | (simp; omega) | (intro hg; simp (config := { decide := true }) only [go_sem, hg]; done) | (intro hg; simp (config := { decide := true }) only [go_sem, hg]; omega)) ?_
    refine hκ _ _ ?_; clear hκ hξ ξ κ
    refine cd (by rfl) (fun c1 => ?_) (fun c1 => ?_)
    · have hi0 : i = 0 := by
        by_cases h : i = 0
        · exact h
        · exfalso
          have : rmE l (nat l i).id = 0 := by unfold rmE; rw [if_pos hge, hffi, if_neg (by omega)]
          rw [this] at c1; simp at c1
      have hre : rmE l (nat l i).id = 24 := by unfold rmE; rw [if_pos hge, hffi, if_pos (by omega)]
      have hrl : rmL l (nat l i).id = [] := by unfold rmL; rw [if_neg (by rw [hre]; decide)]
      subst hi0
      refine sq ?_
      refine rg [4] [] [(1, 37), (5, 41), (13, 49)] (by kernel_rfl) ?_; intro κ ξ hκ hξ
      try simp (config := { decide := true }) only [go_sem, Nat.reduceMul, Nat.reduceAdd, Nat.reduceBEq, cond_false, decide_true, c0, hv, hk, hil3, hl0, h0i, h0l, h0l2, hge, hfbi, hfxi, hffi, Int.toNat_natCast, c1, hre, hrl, List.length_nil, List.map_nil]
      repeat with_reducible refine And.intro (by first | assumption | omega | (simp; done) | (simp; omega) | (intro hg; simp (config := { decide := true }) only [go_sem, hg]; done) | (intro hg; simp (config := { decide := true }) only [go_sem, hg]; omega)) ?_
      refine hκ _ _ ?_; clear hκ hξ ξ κ
      refine rt ?_
      refine retE ?_
      simp (config := { decide := true }) only [go_sem, resD, resV, decide_true, c0, hv, hk, hil3, hl0, h0i, h0l, h0l2, hge, hfbi, hfxi, hffi, Int.toNat_natCast, c1, hre, hrl, List.length_nil, List.map_nil]
      
    · have hre : rmE l (nat l i).id = 0 := by simpa using c1
      have hi0 : 0 < i := by
        rcases Nat.eq_zero_or_pos i with h | h
        · exfalso
          have : rmE l (nat l i).id = 24 := by unfold rmE; rw [if_pos hge, hffi, if_pos (by omega)]
          rw [this] at hre; cases hre
        · exact h
      have hrl : rmL l (nat l i).id = stL l (nat l i).id l.length := by unfold rmL; rw [if_pos hre]
      have hst : treB (stL l (nat l i).id l.length) = true := treB_true.2 (stL_tree hT hil hi0)
      have hls := stL_less hil hT
      have hls2 : ((stL l (nat l i).id l.length).length : Int) < (l.length : Int) := by omega
      refine sk ?_
      refine sq ?_
      refine rg [0, 5, 6, 7, 9] [] [] (by kernel_rfl) ?_; intro κ ξ hκ hξ
      try simp (config := { decide := true }) only [go_sem, Nat.reduceMul, Nat.reduceAdd, Nat.reduceBEq, cond_false, decide_true, c0, hv, hk, hil3, hl0, h0i, h0l, h0l2, hge, hfbi, hfxi, hffi, Int.toNat_natCast, c1, hre, hrl]
      repeat with_reducible refine And.intro (by first | assumption | omega | (simp; done) | (simp; omega) | (intro hg; simp (config := { decide := true }) only [go_sem, hg]; done) | (intro hg; simp (config := { decide := true }) only [go_sem, hg]; omega)) ?_
      refine hκ _ _ ?_; clear hκ hξ ξ κ
      refine sq ?_
      refine sq ?_
      refine rg [0, 5, 6, 7, 9, 54, 55, 56] [] [] (by kernel_rfl) ?_; intro κ ξ hκ hξ
      try simp (config := { decide := true }) only [go_sem, Nat.reduceMul, Nat.reduceAdd, Nat.reduceBEq, cond_false, decide_true, c0, hv, hk, hil3, hl0, h0i, h0l, h0l2, hge, hfbi, hfxi, hffi, Int.toNat_natCast, c1, hre, hrl]
      repeat with_reducible refine And.intro (by first | assumption | omega | (simp; done) | (simp; omega) | (intro hg; simp (config := { decide := true }) only [go_sem, hg]; done) | (intro hg; simp (config := { decide := true }) only [go_sem, hg]; omega)) ?_
      refine hκ _ _ ?_; clear hκ hξ ξ κ
      refine bl ?_
      refine lp (α := Nat × Option (Nat × Nat)) (fun y => mk [(0, .sl 5 (l.map nrow) .no), (5, .bool true), (6, .int .i64 (nat l i).id), (7, .sl 5 ((stL l (nat l i).id l.length).map nrow) .no), (9, apD 5 ((stL l (nat l i).id y.1).map nrow) y.2), (54, .sl 5 (l.map nrow) .no), (55, .int .i64 l.length), (56, .int .i64 y.1)]) (fun y => apS 5 (stL l (nat l i).id y.1).length y.2) (fun y => y.1 ≤ l.length ∧ apOK ((stL l (nat l i).id y.1).map nrow) y.2) (fun y => l.length - y.1) (0, none) ⟨⟨by omega, fun _ => rfl⟩, EnvLe.of_eq rfl, .refl _⟩ ?_
      rintro ⟨n, o⟩ ⟨hn, ho⟩
      simp only at hn ho
      have hsl := stL_len l (nat l i).id n
      refine sq ?_
      refine rg [0, 5, 6, 7, 9, 54, 55, 56, 57] [] [] (by kernel_rfl) ?_; intro κ ξ hκ hξ
      try simp (config := { decide := true }) only [go_sem, Nat.reduceMul, Nat.reduceAdd, Nat.reduceBEq, cond_false, decide_true, c0, hv, hk, hil3, hl0, h0i, h0l, h0l2, hge, hfbi, hfxi, hffi, Int.toNat_natCast, c1, hre, hrl]
      repeat with_reducible refine And.intro (by first | assumption | omega | (simp; done) | (simp; omega) | (intro hg; simp (config := { decide := true }) only [go_sem, hg]; done) | (intro hg; simp (config := { decide := true }) only [go_sem, hg]; omega)) ?_
      refine hκ _ _ ?_; clear hκ hξ ξ κ
      refine sq ?_
      refine cd (by rfl) (fun c2 => ?_) (fun c2 => ?_)
      · simp only [go_sem] at c2
        have hnl : n < l.length := by omega
        have hgen : gerr l (nat l n).id = 0 := by
          have hf := fm_id (hT.form n (by omega))
          exact gerr_zero.2 ⟨hv, by simp [idB]; omega, by rw [idx_self hT (by omega)]; omega⟩
        have hptn : ptL l (nat l n).id = pathL l n := by unfold ptL; rw [if_pos hgen, idx_self hT hnl, Int.toNat_natCast]
        refine sk ?_
        refine sq ?_
        refine bl ?_
        refine sq ?_
        refine rgz [(11, [])] [0, 5, 6, 7, 9, 11, 54, 55, 56] [] [] (by kernel_rfl) ?_; intro κ ξ hκ hξ
        try simp (config := { decide := true }) only [go_sem, Nat.reduceMul, Nat.reduceAdd, Nat.reduceBEq, cond_false, decide_true, c0, hv, hk, hil3, hl0, h0i, h0l, h0l2, hge, hfbi, hfxi, hffi, Int.toNat_natCast, c1, hre, hrl, c2, hgen, hptn]
        repeat with_reducible refine And.intro (by first | assumption | omega | (simp; done) | (simp; omega) | (intro hg; simp (config := { decide := true }) only [go_sem, hg]; done) | (intro hg; simp (config := { decide := true }) only [go_sem, hg]; omega)) ?_
        intro b11 hb11
        try simp (config := { decide := true }) only [go_sem, Nat.reduceMul, Nat.reduceAdd, Nat.reduceBEq, cond_false, decide_true, c0, hv, hk, hil3, hl0, h0i, h0l, h0l2, hge, hfbi, hfxi, hffi, Int.toNat_natCast, c1, hre, hrl, c2, hgen, hptn, hb11]
        repeat with_reducible refine And.intro (by first | assumption | omega | (simp; done) | (simp; omega) | (intro hg; simp (config := { decide := true }) only [go_sem, hg]; done) | (intro hg; simp (config := { decide := true }) only [go_sem, hg]; omega)) ?_
        refine hκ _ _ ?_; clear hκ hξ ξ κ
        refine sq ?_
        refine rg [0, 5, 6, 7, 9, 11, 12, 13, 54, 55, 56] [] [] (by kernel_rfl) ?_; intro κ ξ hκ hξ
        try simp (config := { decide := true }) only [go_sem, Nat.reduceMul, Nat.reduceAdd, Nat.reduceBEq, cond_false, decide_true, c0, hv, hk, hil3, hl0, h0i, h0l, h0l2, hge, hfbi, hfxi, hffi, Int.toNat_natCast, c1, hre, hrl, c2, hgen, hptn, hb11]
        repeat with_reducible refine And.intro (by first | assumption | omega | (simp; done) | (simp; omega) | (intro hg; simp (config := { decide := true }) only [go_sem, hg]; done) | (intro hg; simp (config := { decide := true }) only [go_sem, hg]; omega)) ?_
        refine callF (path2_w _ _ _) ?_
        try simp (config := { decide := true }) only [go_sem, Nat.reduceMul, Nat.reduceAdd, Nat.reduceBEq, cond_false, decide_true, c0, hv, hk, hil3, hl0, h0i, h0l, h0l2, hge, hfbi, hfxi, hffi, Int.toNat_natCast, c1, hre, hrl, c2, hgen, hptn, hb11]
        repeat with_reducible refine And.intro (by first | assumption | omega | (simp; done) | (simp; omega) | (intro hg; simp (config := { decide := true }) only [go_sem, hg]; done) | (intro hg; simp (config := { decide := true }) only [go_sem, hg]; omega)) ?_
        refine hκ _ _ ?_; clear hκ hξ ξ κ
        refine sq ?_
        refine sq ?_
        refine rg [0, 5, 6, 7, 9, 11, 12, 54, 55, 56, 68] [] [] (by kernel_rfl) ?_; intro κ ξ hκ hξ
        try simp (config := { decide := true }) only [go_sem, Nat.reduceMul, Nat.reduceAdd, Nat.reduceBEq, cond_false, decide_true, c0, hv, hk, hil3, hl0, h0i, h0l, h0l2, hge, hfbi, hfxi, hffi, Int.toNat_natCast, c1, hre, hrl, c2, hgen, hptn, hb11]
        repeat with_reducible refine And.intro (by first | assumption | omega | (simp; done) | (simp; omega) | (intro hg; simp (config := { decide := true }) only [go_sem, hg]; done) | (intro hg; simp (config := { decide := true }) only [go_sem, hg]; omega)) ?_
        refine hκ _ _ ?_; clear hκ hξ ξ κ
        refine cd (by rfl) (fun c3 => ?_) (fun c3 => ?_)
        · exfalso; revert c3; simp
        · skip
          refine sk ?_
          refine sq ?_
          refine rg [0, 5, 6, 7, 9, 11, 54, 55, 56, 72] [] [] (by kernel_rfl) ?_; intro κ ξ hκ hξ
          try simp (config := { decide := true }) only [go_sem, Nat.reduceMul, Nat.reduceAdd, Nat.reduceBEq, cond_false, decide_true, c0, hv, hk, hil3, hl0, h0i, h0l, h0l2, hge, hfbi, hfxi, hffi, Int.toNat_natCast, c1, hre, hrl, c2, hgen, hptn, hb11, c3]
          repeat with_reducible refine And.intro (by first | assumption | omega | (simp; done) | (simp; omega) | (intro hg; simp (config := { decide := true }) only [go_sem, hg]; done) | (intro hg; simp (config := { decide := true }) only [go_sem, hg]; omega)) ?_
          refine callF (rhas_w _ _ _) ?_
          try simp (config := { decide := true }) only [go_sem, Nat.reduceMul, Nat.reduceAdd, Nat.reduceBEq, cond_false, decide_true, c0, hv, hk, hil3, hl0, h0i, h0l, h0l2, hge, hfbi, hfxi, hffi, Int.toNat_natCast, c1, hre, hrl, c2, hgen, hptn, hb11, c3]
          repeat with_reducible refine And.intro (by first | assumption | omega | (simp; done) | (simp; omega) | (intro hg; simp (config := { decide := true }) only [go_sem, hg]; done) | (intro hg; simp (config := { decide := true }) only [go_sem, hg]; omega)) ?_
          refine hκ _ _ ?_; clear hκ hξ ξ κ
          refine cd (by rfl) (fun c4 => ?_) (fun c4 => ?_)
          · have hgo : goB l (nat l i).id n = false := by unfold goB; simpa using c4
            refine rg [0, 5, 6, 7, 9, 54, 55, 56] [] [] (by kernel_rfl) ?_; intro κ ξ hκ hξ
            try simp (config := { decide := true }) only [go_sem, Nat.reduceMul, Nat.reduceAdd, Nat.reduceBEq, cond_false, decide_true, c0, hv, hk, hil3, hl0, h0i, h0l, h0l2, hge, hfbi, hfxi, hffi, Int.toNat_natCast, c1, hre, hrl, c2, hgen, hptn, hb11, c3, c4]
            repeat with_reducible refine And.intro (by first | assumption | omega | (simp; done) | (simp; omega) | (intro hg; simp (config := { decide := true }) only [go_sem, hg]; done) | (intro hg; simp (config := { decide := true }) only [go_sem, hg]; omega)) ?_
            refine napp_grow0 (by first | assumption | omega | (simp; done) | (simp; omega) | (intro hg; simp (config := { decide := true }) only [go_sem, hg]; done) | (intro hg; simp (config := { decide := true }) only [go_sem, hg]; omega)) (by first | (simp; done) | (simp [*]; done) | omega) rfl rfl (by simp (config := { decide := true }) only [go_sem, Option.isSome_some]) tf85 tf86 tf131 (by refine ⟨⟨rfl, by decide, by decide⟩, by simp (config := { decide := true }) only [go_sem], by simp, ?_⟩; simp [capB] <;> omega) ?_; intro b76 c76
            try simp (config := { decide := true }) only [go_sem, Nat.reduceMul, Nat.reduceAdd, Nat.reduceBEq, cond_false, decide_true, c0, hv, hk, hil3, hl0, h0i, h0l, h0l2, hge, hfbi, hfxi, hffi, Int.toNat_natCast, c1, hre, hrl, c2, hgen, hptn, hb11, c3, c4]
            repeat with_reducible refine And.intro (by first | assumption | omega | (simp; done) | (simp; omega) | (intro hg; simp (config := { decide := true }) only [go_sem, hg]; done) | (intro hg; simp (config := { decide := true }) only [go_sem, hg]; omega)) ?_
            refine hκ _ _ ?_; clear hκ hξ ξ κ
            refine rg [0, 5, 6, 7, 9, 54, 55, 56] [] [] (by kernel_rfl) ?_; intro κ ξ hκ hξ
            try simp (config := { decide := true }) only [go_sem, Nat.reduceMul, Nat.reduceAdd, Nat.reduceBEq, cond_false, decide_true, c0, hv, hk, hil3, hl0, h0i, h0l, h0l2, hge, hfbi, hfxi, hffi, Int.toNat_natCast, c1, hre, hrl, c2, hgen, hptn, hb11, c3, c4]
            repeat with_reducible refine And.intro (by first | assumption | omega | (simp; done) | (simp; omega) | (intro hg; simp (config := { decide := true }) only [go_sem, hg]; done) | (intro hg; simp (config := { decide := true }) only [go_sem, hg]; omega)) ?_
            refine hκ _ _ ?_; clear hκ hξ ξ κ
            have hs1 : stL l (nat l i).id (n + 1) = stL l (nat l i).id n ++ [nat l n] := by rw [stL_succ, if_neg (by rw [hgo]; decide)]
            refine ⟨(n + 1, some (b76, c76)), ⟨⟨by omega, (show apOK _ (some _) from fun h => by cases h)⟩, by simp only; omega⟩, EnvLe.of_eq ?_, ?_⟩
            · rw [w64 (by omega), hs1, List.map_append]; rfl
            · rw [hs1, List.length_append]; exact .refl _
          · have hgo : goB l (nat l i).id n = true := by unfold goB; simpa using c4
            refine sk ?_
            refine rg [0, 5, 6, 7, 9, 54, 55, 56] [] [] (by kernel_rfl) ?_; intro κ ξ hκ hξ
            try simp (config := { decide := true }) only [go_sem, Nat.reduceMul, Nat.reduceAdd, Nat.reduceBEq, cond_false, decide_true, c0, hv, hk, hil3, hl0, h0i, h0l, h0l2, hge, hfbi, hfxi, hffi, Int.toNat_natCast, c1, hre, hrl, c2, hgen, hptn, hb11, c3, c4]
            repeat with_reducible refine And.intro (by first | assumption | omega | (simp; done) | (simp; omega) | (intro hg; simp (config := { decide := true }) only [go_sem, hg]; done) | (intro hg; simp (config := { decide := true }) only [go_sem, hg]; omega)) ?_
            refine hκ _ _ ?_; clear hκ hξ ξ κ
            have hs1 : stL l (nat l i).id (n + 1) = stL l (nat l i).id n := by rw [stL_succ, if_pos hgo]
            refine ⟨(n + 1, o), ⟨⟨by omega, by rw [hs1]; exact ho⟩, by simp only; omega⟩, EnvLe.of_eq ?_, ?_⟩
            · rw [w64 (by omega), hs1]; rfl
            · rw [hs1]; exact .refl _
      · simp only [go_sem] at c2
        obtain rfl : n = l.length := by omega
        obtain ⟨⟨bo, co⟩, rfl⟩ : ∃ p, o = some p := by
          cases o with
          | none =>
            have h1 := (stL_tree hT hil hi0).len.1
            have h := ho rfl
            rw [List.map_eq_nil_iff] at h
            rw [h] at h1
            simp at h1
          | some p => exact ⟨p, rfl⟩
        refine ex ?_
        refine sq ?_
        refine rg [4] [] [(1, 79), (5, 83), (10, 88)] (by kernel_rfl) ?_; intro κ ξ hκ hξ
        try simp (config := { decide := true }) only [go_sem, Nat.reduceMul, Nat.reduceAdd, Nat.reduceBEq, cond_false, decide_true, c0, hv, hk, hil3, hl0, h0i, h0l, h0l2, hge, hfbi, hfxi, hffi, Int.toNat_natCast, c1, hre, hrl, c2, hst, hls2, apD, apS]
        repeat with_reducible refine And.intro (by first | assumption | omega | (simp; done) | (simp; omega) | (intro hg; simp (config := { decide := true }) only [go_sem, hg]; done) | (intro hg; simp (config := { decide := true }) only [go_sem, hg]; omega)) ?_
        refine vo_gc ?_; simp (config := { decide := true }) only [go_sem, decide_true, c0, hv, hk, hil3, hl0, h0i, h0l, h0l2, hge, hfbi, hfxi, hffi, Int.toNat_natCast, c1, hre, hrl, c2, hst, hls2, apD, apS]; refine gcallF (fun hg => ⟨by first | rfl | (simp (config := { decide := true }) only [go_sem, hg, decide_true, c0, hv, hk, hil3, hl0, h0i, h0l, h0l2, hge, hfbi, hfxi, hffi, Int.toNat_natCast, c1, hre, hrl, c2, hst, hls2, apD, apS]; done) | exact hg | simpa using hg, tre_w _ _⟩) ?_
        try simp (config := { decide := true }) only [go_sem, Nat.reduceMul, Nat.reduceAdd, Nat.reduceBEq, cond_false, decide_true, c0, hv, hk, hil3, hl0, h0i, h0l, h0l2, hge, hfbi, hfxi, hffi, Int.toNat_natCast, c1, hre, hrl, c2, hst, hls2, apD, apS]
        repeat with_reducible refine And.intro (by first | assumption | omega | (simp; done) | (simp; omega) | (intro hg; simp (config := { decide := true }) only [go_sem, hg]; done) | (intro hg; simp (config := { decide := true }) only [go_sem, hg]; omega)) ?_
        refine vo_gc ?_; simp (config := { decide := true }) only [go_sem, decide_true, c0, hv, hk, hil3, hl0, h0i, h0l, h0l2, hge, hfbi, hfxi, hffi, Int.toNat_natCast, c1, hre, hrl, c2, hst, hls2, apD, apS]; refine gcallF (fun hg => ⟨by first | rfl | (simp (config := { decide := true }) only [go_sem, hg, decide_true, c0, hv, hk, hil3, hl0, h0i, h0l, h0l2, hge, hfbi, hfxi, hffi, Int.toNat_natCast, c1, hre, hrl, c2, hst, hls2, apD, apS]; done) | exact hg | simpa using hg, sameN_w _ _ _ _⟩) ?_
        try simp (config := { decide := true }) only [go_sem, Nat.reduceMul, Nat.reduceAdd, Nat.reduceBEq, cond_false, decide_true, c0, hv, hk, hil3, hl0, h0i, h0l, h0l2, hge, hfbi, hfxi, hffi, Int.toNat_natCast, c1, hre, hrl, c2, hst, hls2, apD, apS]
        repeat with_reducible refine And.intro (by first | assumption | omega | (simp; done) | (simp; omega) | (intro hg; simp (config := { decide := true }) only [go_sem, hg]; done) | (intro hg; simp (config := { decide := true }) only [go_sem, hg]; omega)) ?_
        refine hκ _ _ ?_; clear hκ hξ ξ κ
        refine rt ?_
        refine retE ?_
        simp (config := { decide := true }) only [go_sem, resD, resV, decide_true, c0, hv, hk, hil3, hl0, h0i, h0l, h0l2, hge, hfbi, hfxi, hffi, Int.toNat_natCast, c1, hre, hrl, c2, hst, hls2, apD, apS]
        

end Go.Proofs.Ytgccnkihonmlbaa

/- The walks of Move. Printed by a tool of our own. -/
import Derived.Test.YtgccnkihonmlbaaTm
namespace Go.Proofs.Ytgccnkihonmlbaa
open Go Go.RowKit
set_option linter.unusedSimpArgs false
set_option linter.unusedVariables false
set_option maxHeartbeats 4000000
set_option maxRecDepth 100000
attribute [local go_sem ↓] vo_nil vK_eq vo_q vo_g vo_n vo_c vd_nil dK_eq eK_eq vd_q vd_g vd_n vd_st vd_c cgs_call cgs_builtin
attribute [local go_sem] Ext_refl Ext_cons
attribute [local go_sem] quiet_move quiet_assign quiet_pick quiet_binOp quiet_unOp quiet_convert quiet_field quiet_fieldAddr quiet_indexAddr quiet_index quiet_load quiet_lookup quiet_extract quiet_build quiet_makeInterface quiet_makeFunc quiet_slice quiet_nilCheck quiet_alloc isCall_alloc quiet_box isCall_box quiet_buildSlice isCall_buildSlice quiet_store isCall_store quiet_range isCall_range quiet_next isCall_next quiet_makeSlice isCall_makeSlice quiet_panic isCall_panic quiet_len quiet_cap quiet_min quiet_max quiet_append isCall_append quiet_copy isCall_copy quiet_delete isCall_delete nqk_alloc nqk_box nqk_buildSlice nqk_range nqk_next nqk_makeSlice nqk_panic nqk_makeMap nqk_entry nqk_append nqk_copy nqk_delete isSt_alloc isSt_box isSt_buildSlice isSt_range isSt_next isSt_makeSlice isSt_panic isSt_makeMap isSt_entry isSt_store isSt_mapUpdate isSt_insert isSt_append isSt_copy isSt_delete quiet_makeMap isCall_makeMap quiet_mapUpdate isCall_mapUpdate quiet_insert isCall_insert
attribute [local go_sem] argEnv qev opd put_some put_none set_at mk_cons mk_nil prune_eq D.ofV ofC_int ofC_nil ofC_str ofC_nilmap ofC_nilfunc ofC_nilptr true_and ofC_bool bop isSh ibop Bool.false_eq_true if_false if_true and_self D.core D.cg qpick isB bof gval look Option.bind_some opc cgs Op.operands List.all_cons List.all_nil Bool.and_true and_true true_imp_iff imp_self false_imp_iff beq_true beq_false beq_iff_eq decide_eq_true_eq List.map_cons List.map_nil Bool.not_eq_true' decide_eq_false_iff_not gof gq gev cond_some Option.isSome_some Bool.or_eq_true Bool.and_eq_true Bool.or_eq_false_iff Bool.and_eq_false_iff Bool.not_eq_true Bool.not_eq_false Bool.not_eq_false' ne_eq implies_true forall_const Bool.cond_true_left Bool.cond_false_right not_false_eq_true not_true_eq_false Int.toNat_natCast Int.toNat_zero
attribute [local go_sem] qbuiltin qlook ments foldI mget mput keqD keyOK lookD_s lookD_n lookD_fs lookD_fn nput agop deqF deq1 nappZ cond_true cond_false Option.getD_some Option.getD_none Option.isSome_none ite_self qindex qslice qconv qextract qfield qfaddr qiaddr qload quop qiface qbuild qnil ldC ldD ob List.drop_succ_cons take_mapr drop_mapr List.drop_zero List.take_succ_cons List.take_zero List.length_cons List.length_nil List.getElem?_cons_zero List.getElem?_cons_succ Option.map_some Option.map_none List.head?_cons
attribute [local go_sem] nev isImm List.contains_cons List.contains_nil Bool.or_false Bool.or_true D.flat D.cellsOf D.isCell Bool.or_self Bool.and_self szOf nstore Store.get Store.upd putCells nk_cons not_or FZ frzE_mk frzL inL frz Store.del or_false boxCells List.headD_cons List.headD_nil List.nil_append List.append_nil List.cons_append List.drop_nil false_and and_false false_or true_or or_true Bool.false_and Bool.true_and Bool.false_or Bool.true_or Bool.and_false setPs lim_eq chunk zrep pls_eq plsF fillD resAll shop sbop bbop decide_true decide_false Bool.not_true Bool.not_false eq_self
attribute [local go_sem] tf0 tf1 tf2 tf3 tf4 tf5 tf6 tf7 tf8 tf9 tf10 tf11 tf12 tf13 tf14 tf15 tf16 tf17 tf18 tf19 tf20 tf21 tf22 tf23 tf24 tf25 tf26 tf27 tf28 tf29 tf30 tf31 tf32 tf33 tf34 tf35 tf36 tf37 tf38 tf39 tf40 tf41 tf42 tf43 tf44 tf45 tf46 tf47 tf48 tf49 tf50 tf51 tf52 tf53 tf54 tf55 tf56 tf57 tf58 tf59 tf60 tf61 tf62 tf63 tf64 tf65 tf66 tf67 tf68 tf69 tf70 tf71 tf72 tf73 tf74 tf75 tf76 tf77 tf78 tf79 tf80 tf81 tf82 tf83 tf84 tf85 tf86 tf87 tf88 tf89 tf90 tf91 tf92 tf93 tf94 tf95 tf96 tf97 tf98 tf99 tf100 tf101 tf102 tf103 tf104 tf105 tf106 tf107 tf108 tf109 tf110 tf111 tf112 tf113 tf114 tf115 tf116 tf117 tf118 tf119 tf120 tf121 tf122 tf123 tf124 tf125 tf126 tf127 tf128 tf129 tf130 tf131 tf132 tf133 tf134 tf135 tf136 tf137 tf138 tf139 tf140 tf141 tf142 tf143 tf144 tf145 tf146 tf147 tf148 tf149 tf150 tf151 tf152 tf153 tf154 tf155 tf156 tf157 tf158 tf159 tf160 tf161 tf162 tf163 tf164 tf165 tf166 tf167 tf168 tf169 tf170 tf171 tf172 tf173 tf174 tf175 tf176 tf177 tf178 tf179 tf180 tf181 tf182 tf183 tf184 tf185 tf186 tf187 tf188 tf189 tf190 tf191 tf192 tf193 tf194 tf195 tf196 tf197 tf198 tf199 tf200 tf201 tf202 tf203 tf204 tf205 tf206 tf207 tf208 tf209 tf210 tf211 tf212 tf213 tf214 tf215 tf216 tf217 tf218 tf219 tf220 tf221 tf222 tf223 tf224 tf225 tf226 tf227 tf228 tf229 tf230 tf231 tf232 tf233 tf234 tf235 tf236 tf237 tf238 tf239 tf240 tf241 tf242 tf243 tf244 tf245 tf246 tf247 tf248 tf249 tf250 tf251 tf252
attribute [local go_sem] List.length_map rowAt_n nrow rowAt_t trow rowAt_i irow
attribute [local go_sem] pl_getF pl_lookF pl_lookF' foldI
attribute [local go_sem] fra_arr
theorem tmv_w (l : List Nd) (t : Tok) (x p b : Int) : PCall Try.prog (.func 47) [.sl 5 (l.map nrow) t, .int .i64 x, .int .i64 p, .int .i64 b] (.tup [.sl 5 ((mvL l x p b).map nrow) .no, .int .i64 (mvE l x p b)]) := by
  refine PCall.le ?_
  refine fn_ Try.func47 (by rfl) (by rfl) (rs := [.tmp 8, .tmp 9]) (by rfl) (by simp [Try.f47]) ?_
  refine sq ?_
  refine rg [0, 1, 3, 6] [6] [] (by kernel_rfl) ?_; intro κ ξ hκ hξ
  try simp (config := { decide := true }) only [go_sem, Nat.reduceMul, Nat.reduceAdd, Nat.reduceBEq, cond_false]
  repeat with_reducible refine And.intro (by first | assumption | omega | (simp; done) | (simp; omega) | (intro hg; simp (config := { decide := true }) only [go_sem, hg]; done) | (intro hg; simp (config := { decide := true }) only [go_sem, hg]; omega)) ?_
  refine hκ _ _ ?_; clear hκ hξ ξ κ
  refine sq ?_
  cases ht : treB l
  · skip
    refine rg [0, 1, 3, 6, 10, 11] [] [] (by kernel_rfl) ?_; intro κ ξ hκ hξ
    try simp (config := { decide := true }) only [go_sem, Nat.reduceMul, Nat.reduceAdd, Nat.reduceBEq, cond_false, ht]
    repeat with_reducible refine And.intro (by first | assumption | omega | (simp; done) | (simp; omega) | (intro hg; simp (config := { decide := true }) only [go_sem, hg]; done) | (intro hg; simp (config := { decide := true }) only [go_sem, hg]; omega)) ?_
    refine callR (places_w _ _) fun bm _ => ?_
    try simp (config := { decide := true }) only [go_sem, Nat.reduceMul, Nat.reduceAdd, Nat.reduceBEq, cond_false, ht]
    repeat with_reducible refine And.intro (by first | assumption | omega | (simp; done) | (simp; omega) | (intro hg; simp (config := { decide := true }) only [go_sem, hg]; done) | (intro hg; simp (config := { decide := true }) only [go_sem, hg]; omega)) ?_
    refine hκ _ _ ?_; clear hκ hξ ξ κ
    refine sq ?_
    refine sq ?_
    refine rg [0, 1, 3, 6, 10, 45] [] [(2, 27), (7, 32), (12, 37), (15, 40)] (by kernel_rfl) ?_; intro κ ξ hκ hξ
    try simp (config := { decide := true }) only [go_sem, Nat.reduceMul, Nat.reduceAdd, Nat.reduceBEq, cond_false, ht]
    repeat with_reducible refine And.intro (by first | assumption | omega | (simp; done) | (simp; omega) | (intro hg; simp (config := { decide := true }) only [go_sem, hg]; done) | (intro hg; simp (config := { decide := true }) only [go_sem, hg]; omega)) ?_
    refine vo_gc ?_; simp (config := { decide := true }) only [go_sem, ht]; refine gcallF (fun hg => ⟨by first | rfl | (simp (config := { decide := true }) only [go_sem, hg, ht]; done) | exact hg | simpa using hg, isid_w _⟩) ?_
    try simp (config := { decide := true }) only [go_sem, Nat.reduceMul, Nat.reduceAdd, Nat.reduceBEq, cond_false, ht]
    repeat with_reducible refine And.intro (by first | assumption | omega | (simp; done) | (simp; omega) | (intro hg; simp (config := { decide := true }) only [go_sem, hg]; done) | (intro hg; simp (config := { decide := true }) only [go_sem, hg]; omega)) ?_
    refine vo_gc ?_; simp (config := { decide := true }) only [go_sem, ht]; refine gcallF (fun hg => ⟨by first | rfl | (simp (config := { decide := true }) only [go_sem, hg, ht]; done) | exact hg | simpa using hg, isid_w _⟩) ?_
    try simp (config := { decide := true }) only [go_sem, Nat.reduceMul, Nat.reduceAdd, Nat.reduceBEq, cond_false, ht]
    repeat with_reducible refine And.intro (by first | assumption | omega | (simp; done) | (simp; omega) | (intro hg; simp (config := { decide := true }) only [go_sem, hg]; done) | (intro hg; simp (config := { decide := true }) only [go_sem, hg]; omega)) ?_
    refine vo_gc ?_; simp (config := { decide := true }) only [go_sem, ht]; refine gcallF (fun hg => ⟨by first | rfl | (simp (config := { decide := true }) only [go_sem, hg, ht]; done) | exact hg | simpa using hg, isid_w _⟩) ?_
    try simp (config := { decide := true }) only [go_sem, Nat.reduceMul, Nat.reduceAdd, Nat.reduceBEq, cond_false, ht]
    repeat with_reducible refine And.intro (by first | assumption | omega | (simp; done) | (simp; omega) | (intro hg; simp (config := { decide := true }) only [go_sem, hg]; done) | (intro hg; simp (config := { decide := true }) only [go_sem, hg]; omega)) ?_
    refine hκ _ _ ?_; clear hκ hξ ξ κ
    refine cdt (by rfl) ?_
    refine sq ?_
    refine rg [8, 9] [] [] (by kernel_rfl) ?_; intro κ ξ hκ hξ
    try simp (config := { decide := true }) only [go_sem, Nat.reduceMul, Nat.reduceAdd, Nat.reduceBEq, cond_false, ht]
    repeat with_reducible refine And.intro (by first | assumption | omega | (simp; done) | (simp; omega) | (intro hg; simp (config := { decide := true }) only [go_sem, hg]; done) | (intro hg; simp (config := { decide := true }) only [go_sem, hg]; omega)) ?_
    refine hκ _ _ ?_; clear hκ hξ ξ κ
    refine rt ?_
    refine retL ?_
    simp (config := { decide := true }) only [go_sem, resD, resV, ht]
    exact err_le (by simp (config := { decide := true }) only [mvE, ht, Bool.false_eq_true, if_true, if_false]) (by decide)
  · have hT := treB_true.1 ht
    have hl4 := hT.len
    refine rg [0, 1, 3, 6, 10, 11] [] [] (by kernel_rfl) ?_; intro κ ξ hκ hξ
    try simp (config := { decide := true }) only [go_sem, Nat.reduceMul, Nat.reduceAdd, Nat.reduceBEq, cond_false, ht]
    repeat with_reducible refine And.intro (by first | assumption | omega | (simp; done) | (simp; omega) | (intro hg; simp (config := { decide := true }) only [go_sem, hg]; done) | (intro hg; simp (config := { decide := true }) only [go_sem, hg]; omega)) ?_
    refine callR (places_w _ _) fun bm _ => ?_
    try simp (config := { decide := true }) only [go_sem, Nat.reduceMul, Nat.reduceAdd, Nat.reduceBEq, cond_false, ht]
    repeat with_reducible refine And.intro (by first | assumption | omega | (simp; done) | (simp; omega) | (intro hg; simp (config := { decide := true }) only [go_sem, hg]; done) | (intro hg; simp (config := { decide := true }) only [go_sem, hg]; omega)) ?_
    refine hκ _ _ ?_; clear hκ hξ ξ κ
    refine sq ?_
    refine sq ?_
    refine rg [0, 1, 3, 6, 10, 45] [] [(2, 27), (7, 32), (12, 37), (15, 40)] (by kernel_rfl) ?_; intro κ ξ hκ hξ
    try simp (config := { decide := true }) only [go_sem, Nat.reduceMul, Nat.reduceAdd, Nat.reduceBEq, cond_false, ht]
    repeat with_reducible refine And.intro (by first | assumption | omega | (simp; done) | (simp; omega) | (intro hg; simp (config := { decide := true }) only [go_sem, hg]; done) | (intro hg; simp (config := { decide := true }) only [go_sem, hg]; omega)) ?_
    refine vo_gc ?_; simp (config := { decide := true }) only [go_sem, ht]; refine gcallF (fun hg => ⟨by first | rfl | (simp (config := { decide := true }) only [go_sem, hg, ht]; done) | exact hg | simpa using hg, isid_w _⟩) ?_
    try simp (config := { decide := true }) only [go_sem, Nat.reduceMul, Nat.reduceAdd, Nat.reduceBEq, cond_false, ht]
    repeat with_reducible refine And.intro (by first | assumption | omega | (simp; done) | (simp; omega) | (intro hg; simp (config := { decide := true }) only [go_sem, hg]; done) | (intro hg; simp (config := { decide := true }) only [go_sem, hg]; omega)) ?_
    refine vo_gc ?_; simp (config := { decide := true }) only [go_sem, ht]; refine gcallF (fun hg => ⟨by first | rfl | (simp (config := { decide := true }) only [go_sem, hg, ht]; done) | exact hg | simpa using hg, isid_w _⟩) ?_
    try simp (config := { decide := true }) only [go_sem, Nat.reduceMul, Nat.reduceAdd, Nat.reduceBEq, cond_false, ht]
    repeat with_reducible refine And.intro (by first | assumption | omega | (simp; done) | (simp; omega) | (intro hg; simp (config := { decide := true }) only [go_sem, hg]; done) | (intro hg; simp (config := { decide := true }) only [go_sem, hg]; omega)) ?_
    refine vo_gc ?_; simp (config := { decide := true }) only [go_sem, ht]; refine gcallF (fun hg => ⟨by first | rfl | (simp (config := { decide := true }) only [go_sem, hg, ht]; done) | exact hg | simpa using hg, isid_w _⟩) ?_
    try simp (config := { decide := true }) only [go_sem, Nat.reduceMul, Nat.reduceAdd, Nat.reduceBEq, cond_false, ht]
    repeat with_reducible refine And.intro (by first | assumption | omega | (simp; done) | (simp; omega) | (intro hg; simp (config := { decide := true }) only [go_sem, hg]; done) | (intro hg; simp (config := { decide := true }) only [go_sem, hg]; omega)) ?_
    refine hκ _ _ ?_; clear hκ hξ ξ κ
    refine cd (by rfl) (fun c0 => ?_) (fun c0 => ?_)
    · skip
      refine sq ?_
      refine rg [8, 9] [] [] (by kernel_rfl) ?_; intro κ ξ hκ hξ
      try simp (config := { decide := true }) only [go_sem, Nat.reduceMul, Nat.reduceAdd, Nat.reduceBEq, cond_false, ht, c0]
      repeat with_reducible refine And.intro (by first | assumption | omega | (simp; done) | (simp; omega) | (intro hg; simp (config := { decide := true }) only [go_sem, hg]; done) | (intro hg; simp (config := { decide := true }) only [go_sem, hg]; omega)) ?_
      refine hκ _ _ ?_; clear hκ hξ ξ κ
      refine rt ?_
      refine retL ?_
      simp (config := { decide := true }) only [go_sem, resD, resV, ht, c0]
      exact err_le (by simp (config := { decide := true }) only [mvE, ht, Bool.false_eq_true, if_true, if_false, c0]) (by decide)
    · skip
      refine sk ?_
      refine sq ?_
      refine rgz [(12, [])] [0, 1, 3, 6, 10, 12, 13] [] [] (by kernel_rfl) ?_; intro κ ξ hκ hξ
      try simp (config := { decide := true }) only [go_sem, Nat.reduceMul, Nat.reduceAdd, Nat.reduceBEq, cond_false, ht, c0]
      repeat with_reducible refine And.intro (by first | assumption | omega | (simp; done) | (simp; omega) | (intro hg; simp (config := { decide := true }) only [go_sem, hg]; done) | (intro hg; simp (config := { decide := true }) only [go_sem, hg]; omega)) ?_
      intro b12 hb12
      try simp (config := { decide := true }) only [go_sem, Nat.reduceMul, Nat.reduceAdd, Nat.reduceBEq, cond_false, ht, c0, hb12]
      repeat with_reducible refine And.intro (by first | assumption | omega | (simp; done) | (simp; omega) | (intro hg; simp (config := { decide := true }) only [go_sem, hg]; done) | (intro hg; simp (config := { decide := true }) only [go_sem, hg]; omega)) ?_
      refine hκ _ _ ?_; clear hκ hξ ξ κ
      refine sq ?_
      refine rgz [(14, [])] [0, 1, 3, 6, 12, 13, 14, 15] [] [] (by kernel_rfl) ?_; intro κ ξ hκ hξ
      try simp (config := { decide := true }) only [go_sem, Nat.reduceMul, Nat.reduceAdd, Nat.reduceBEq, cond_false, ht, c0, hb12]
      repeat with_reducible refine And.intro (by first | assumption | omega | (simp; done) | (simp; omega) | (intro hg; simp (config := { decide := true }) only [go_sem, hg]; done) | (intro hg; simp (config := { decide := true }) only [go_sem, hg]; omega)) ?_
      intro b14 hb14
      try simp (config := { decide := true }) only [go_sem, Nat.reduceMul, Nat.reduceAdd, Nat.reduceBEq, cond_false, ht, c0, hb12, hb14]
      repeat with_reducible refine And.intro (by first | assumption | omega | (simp; done) | (simp; omega) | (intro hg; simp (config := { decide := true }) only [go_sem, hg]; done) | (intro hg; simp (config := { decide := true }) only [go_sem, hg]; omega)) ?_
      refine hκ _ _ ?_; clear hκ hξ ξ κ
      refine sq ?_
      refine sq ?_
      refine rg [0, 1, 3, 6, 12, 14, 63] [] [(2, 60)] (by kernel_rfl) ?_; intro κ ξ hκ hξ
      try simp (config := { decide := true }) only [go_sem, Nat.reduceMul, Nat.reduceAdd, Nat.reduceBEq, cond_false, ht, c0, hb12, hb14]
      repeat with_reducible refine And.intro (by first | assumption | omega | (simp; done) | (simp; omega) | (intro hg; simp (config := { decide := true }) only [go_sem, hg]; done) | (intro hg; simp (config := { decide := true }) only [go_sem, hg]; omega)) ?_
      refine hκ _ _ ?_; clear hκ hξ ξ κ
      refine cd (by rfl) (fun c1 => ?_) (fun c1 => ?_)
      · skip
        refine sq ?_
        refine rg [8, 9] [] [] (by kernel_rfl) ?_; intro κ ξ hκ hξ
        try simp (config := { decide := true }) only [go_sem, Nat.reduceMul, Nat.reduceAdd, Nat.reduceBEq, cond_false, ht, c0, hb12, hb14, c1]
        repeat with_reducible refine And.intro (by first | assumption | omega | (simp; done) | (simp; omega) | (intro hg; simp (config := { decide := true }) only [go_sem, hg]; done) | (intro hg; simp (config := { decide := true }) only [go_sem, hg]; omega)) ?_
        refine hκ _ _ ?_; clear hκ hξ ξ κ
        refine rt ?_
        refine retL ?_
        simp (config := { decide := true }) only [go_sem, resD, resV, ht, c0, hb12, hb14, c1]
        exact err_le (by simp (config := { decide := true }) only [mvE, ht, Bool.false_eq_true, if_true, if_false, c0, c1]) (by decide)
      · obtain ⟨hix, hip⟩ : 0 ≤ idx l x ∧ 0 ≤ idx l p := by simpa using c1
        obtain ⟨i, hi1, hi, hfi, hfd⟩ := idx_nat hix
        obtain ⟨k, hk1, hk, hfk, hfe⟩ := idx_nat hip
        have hil3 : (i : Int) < (l.length : Int) := by omega
        have hkl3 : (k : Int) < (l.length : Int) := by omega
        have hst := stP_R hT (nat l i).kind hk
        have hin : (idx l x).toNat = i := by omega
        have hkn : (idx l p).toNat = k := by omega
        have hx1 := (idB_true.1 (show idB x = true by rw [← idx_id hix, hin]; have := fm_id (hT.form i hi); simp [idB]; omega)).1
        have hgo := goL_par (x := x) hT hip
        have hgz := goL_idx hT hix
        obtain ⟨hg0, hgne⟩ := goL_ne hT hix
        have hgl := goL_len l x l.length
        have hsl := stL_len l x l.length
        have hgl0 : (0 : Int) < ((goL l x l.length).length : Int) := by omega
        have hpo : setP (goL l x l.length) p ≠ [] := by intro e; have := congrArg List.length e; rw [setP_len] at this; have h3 : ([] : List Nd).length = 0 := rfl; omega
        have hsr := setP_row hgne p
        have hspl := setP_len (goL l x l.length) p
        refine weak _ (EnvLe.refl _) (List.nil_sublist _) ?_
        refine sk ?_
        refine sq ?_
        refine rg [0, 1, 3, 6, 12, 14, 16, 17] [] [] (by kernel_rfl) ?_; intro κ ξ hκ hξ
        try simp (config := { decide := true }) only [go_sem, Nat.reduceMul, Nat.reduceAdd, Nat.reduceBEq, cond_false, ht, c0, hb12, hb14, c1, hfi, hfd, hfk, hil3, hkl3, hst, Int.toNat_natCast, hgl0]
        repeat with_reducible refine And.intro (by first | assumption | omega | (simp; done) | (simp; omega) | (intro hg; simp (config := { decide := true }) only [go_sem, hg]; done) | (intro hg; simp (config := { decide := true }) only [go_sem, hg]; omega)) ?_
        refine callR (split_w l t x hT hx1 hix) fun ⟨bg, cg⟩ hcg => ?_
        try simp (config := { decide := true }) only [go_sem, Nat.reduceMul, Nat.reduceAdd, Nat.reduceBEq, cond_false, ht, c0, hb12, hb14, c1, hfi, hfd, hfk, hil3, hkl3, hst, Int.toNat_natCast, hgl0]
        repeat with_reducible refine And.intro (by first | assumption | omega | (simp; done) | (simp; omega) | (intro hg; simp (config := { decide := true }) only [go_sem, hg]; done) | (intro hg; simp (config := { decide := true }) only [go_sem, hg]; omega)) ?_
        refine hκ _ _ ?_; clear hκ hξ ξ κ
        refine sq ?_
        refine rg [0, 1, 3, 6, 12, 14, 16, 17, 18] [] [] (by kernel_rfl) ?_; intro κ ξ hκ hξ
        try simp (config := { decide := true }) only [go_sem, Nat.reduceMul, Nat.reduceAdd, Nat.reduceBEq, cond_false, ht, c0, hb12, hb14, c1, hfi, hfd, hfk, hil3, hkl3, hst, Int.toNat_natCast, hgl0]
        repeat with_reducible refine And.intro (by first | assumption | omega | (simp; done) | (simp; omega) | (intro hg; simp (config := { decide := true }) only [go_sem, hg]; done) | (intro hg; simp (config := { decide := true }) only [go_sem, hg]; omega)) ?_
        refine callL1 (rows := (goL l x l.length).map nrow) (by have h := nconf_w (goL l x l.length) .no 82 p (fun n => movc_w n p); rw [hgo] at h; have e := fra_arr (b := bg) (sz := 5) (n := (goL l x l.length).length) (cap := cg) (rows := (goL l x l.length).map nrow) ⟨by rw [List.length_map], hcg, by unfold lim; omega⟩; show PCall _ _ [fra _ _ _ (.arr bg 5 _ cg), _] _; rw [e]; exact h) rfl ?_
        try simp (config := { decide := true }) only [go_sem, Nat.reduceMul, Nat.reduceAdd, Nat.reduceBEq, cond_false, ht, c0, hb12, hb14, c1, hfi, hfd, hfk, hil3, hkl3, hst, Int.toNat_natCast, hgl0]
        repeat with_reducible refine And.intro (by first | assumption | omega | (simp; done) | (simp; omega) | (intro hg; simp (config := { decide := true }) only [go_sem, hg]; done) | (intro hg; simp (config := { decide := true }) only [go_sem, hg]; omega)) ?_
        refine hκ _ _ ?_; clear hκ hξ ξ κ
        refine sq ?_
        refine sq ?_
        refine rg [0, 3, 6, 12, 14, 16, 17, 95] [] [(3, 76), (6, 79), (9, 82), (13, 86)] (by kernel_rfl) ?_; intro κ ξ hκ hξ
        try simp (config := { decide := true }) only [go_sem, Nat.reduceMul, Nat.reduceAdd, Nat.reduceBEq, cond_false, ht, c0, hb12, hb14, c1, hfi, hfd, hfk, hil3, hkl3, hst, Int.toNat_natCast, hgl0]
        repeat with_reducible refine And.intro (by first | assumption | omega | (simp; done) | (simp; omega) | (intro hg; simp (config := { decide := true }) only [go_sem, hg]; done) | (intro hg; simp (config := { decide := true }) only [go_sem, hg]; omega)) ?_
        refine vo_gc ?_; simp (config := { decide := true }) only [go_sem, ht, c0, hb12, hb14, c1, hfi, hfd, hfk, hil3, hkl3, hst, Int.toNat_natCast, hgl0]; refine gcallF (fun hg => ⟨by first | rfl | (simp (config := { decide := true }) only [go_sem, hg, ht, c0, hb12, hb14, c1, hfi, hfd, hfk, hil3, hkl3, hst, Int.toNat_natCast, hgl0]; done) | exact hg | simpa using hg, kids_w _ _ _ (by omega)⟩) ?_
        try simp (config := { decide := true }) only [go_sem, Nat.reduceMul, Nat.reduceAdd, Nat.reduceBEq, cond_false, ht, c0, hb12, hb14, c1, hfi, hfd, hfk, hil3, hkl3, hst, Int.toNat_natCast, hgl0]
        repeat with_reducible refine And.intro (by first | assumption | omega | (simp; done) | (simp; omega) | (intro hg; simp (config := { decide := true }) only [go_sem, hg]; done) | (intro hg; simp (config := { decide := true }) only [go_sem, hg]; omega)) ?_
        refine vo_gc ?_; simp (config := { decide := true }) only [go_sem, ht, c0, hb12, hb14, c1, hfi, hfd, hfk, hil3, hkl3, hst, Int.toNat_natCast, hgl0]; refine gcallF (fun hg => ⟨by first | rfl | (simp (config := { decide := true }) only [go_sem, hg, ht, c0, hb12, hb14, c1, hfi, hfd, hfk, hil3, hkl3, hst, Int.toNat_natCast, hgl0]; done) | exact hg | simpa using hg, scon_w _ _ _⟩) ?_
        try simp (config := { decide := true }) only [go_sem, Nat.reduceMul, Nat.reduceAdd, Nat.reduceBEq, cond_false, ht, c0, hb12, hb14, c1, hfi, hfd, hfk, hil3, hkl3, hst, Int.toNat_natCast, hgl0]
        repeat with_reducible refine And.intro (by first | assumption | omega | (simp; done) | (simp; omega) | (intro hg; simp (config := { decide := true }) only [go_sem, hg]; done) | (intro hg; simp (config := { decide := true }) only [go_sem, hg]; omega)) ?_
        refine hκ _ _ ?_; clear hκ hξ ξ κ
        refine cd (by rfl) (fun c2 => ?_) (fun c2 => ?_)
        · rw [← hi1] at c2
          refine sq ?_
          refine rg [8, 9] [] [] (by kernel_rfl) ?_; intro κ ξ hκ hξ
          try simp (config := { decide := true }) only [go_sem, Nat.reduceMul, Nat.reduceAdd, Nat.reduceBEq, cond_false, ht, c0, hb12, hb14, c1, hfi, hfd, hfk, hil3, hkl3, hst, Int.toNat_natCast, hgl0, c2]
          repeat with_reducible refine And.intro (by first | assumption | omega | (simp; done) | (simp; omega) | (intro hg; simp (config := { decide := true }) only [go_sem, hg]; done) | (intro hg; simp (config := { decide := true }) only [go_sem, hg]; omega)) ?_
          refine hκ _ _ ?_; clear hκ hξ ξ κ
          refine rt ?_
          refine retL ?_
          simp (config := { decide := true }) only [go_sem, resD, resV, ht, c0, hb12, hb14, c1, hfi, hfd, hfk, hil3, hkl3, hst, Int.toNat_natCast, hgl0, c2]
          exact err_le (by simp (config := { decide := true }) only [mvE, ht, Bool.false_eq_true, if_true, if_false, c0, c1, c2]) (by decide)
        · rw [← hi1] at c2
          have hpi := putI_mv hT hip (b := b) (x := x) (by cases e : goB l x (idx l p).toNat <;> simp [e] at c2 ⊢) (by revert c2; cases (decide (b = x) || !iin (kidsL l p) b) <;> cases (decide (b = 0)) <;> simp)
          refine sk ?_
          refine sq ?_
          refine sq ?_
          refine rgd [3, 6, 16, 17, 109] [] [108] [] (by kernel_rfl) (by kernel_rfl) ?_; intro κ ξ hκ hξ
          try simp (config := { decide := true }) only [go_sem, Nat.reduceMul, Nat.reduceAdd, Nat.reduceBEq, cond_false, ht, c0, hb12, hb14, c1, hfi, hfd, hfk, hil3, hkl3, hst, Int.toNat_natCast, hgl0, c2]
          repeat with_reducible refine And.intro (by first | assumption | omega | (simp; done) | (simp; omega) | (intro hg; simp (config := { decide := true }) only [go_sem, hg]; done) | (intro hg; simp (config := { decide := true }) only [go_sem, hg]; omega)) ?_
          refine scallF (stands_w _ _) ?_
          try simp (config := { decide := true }) only [go_sem, Nat.reduceMul, Nat.reduceAdd, Nat.reduceBEq, cond_false, ht, c0, hb12, hb14, c1, hfi, hfd, hfk, hil3, hkl3, hst, Int.toNat_natCast, hgl0, c2]
          repeat with_reducible refine And.intro (by first | assumption | omega | (simp; done) | (simp; omega) | (intro hg; simp (config := { decide := true }) only [go_sem, hg]; done) | (intro hg; simp (config := { decide := true }) only [go_sem, hg]; omega)) ?_
          refine hκ _ _ ?_; clear hκ hξ ξ κ
          refine cd (by rfl) (fun c3 => ?_) (fun c3 => ?_)
          · rw [← hin, ← hkn] at c3
            refine sq ?_
            refine rg [8, 9] [] [] (by kernel_rfl) ?_; intro κ ξ hκ hξ
            try simp (config := { decide := true }) only [go_sem, Nat.reduceMul, Nat.reduceAdd, Nat.reduceBEq, cond_false, ht, c0, hb12, hb14, c1, hfi, hfd, hfk, hil3, hkl3, hst, Int.toNat_natCast, hgl0, c2, c3]
            repeat with_reducible refine And.intro (by first | assumption | omega | (simp; done) | (simp; omega) | (intro hg; simp (config := { decide := true }) only [go_sem, hg]; done) | (intro hg; simp (config := { decide := true }) only [go_sem, hg]; omega)) ?_
            refine hκ _ _ ?_; clear hκ hξ ξ κ
            refine rt ?_
            refine retL ?_
            simp (config := { decide := true }) only [go_sem, resD, resV, ht, c0, hb12, hb14, c1, hfi, hfd, hfk, hil3, hkl3, hst, Int.toNat_natCast, hgl0, c2, c3]
            exact err_le (by simp (config := { decide := true }) only [mvE, ht, Bool.false_eq_true, if_true, if_false, c0, c1, c2, c3]) (by decide)
          · rw [← hin, ← hkn] at c3
            refine sk ?_
            refine sq ?_
            refine rg [3, 16, 17] [] [] (by kernel_rfl) ?_; intro κ ξ hκ hξ
            try simp (config := { decide := true }) only [go_sem, Nat.reduceMul, Nat.reduceAdd, Nat.reduceBEq, cond_false, ht, c0, hb12, hb14, c1, hfi, hfd, hfk, hil3, hkl3, hst, Int.toNat_natCast, hgl0, c2, c3]
            repeat with_reducible refine And.intro (by first | assumption | omega | (simp; done) | (simp; omega) | (intro hg; simp (config := { decide := true }) only [go_sem, hg]; done) | (intro hg; simp (config := { decide := true }) only [go_sem, hg]; omega)) ?_
            refine hκ _ _ ?_; clear hκ hξ ξ κ
            refine fza bg [17] [] (sz := 5) (rows := (setP (goL l x l.length) p).map nrow) (cap := cg) (by rw [show ∀ y, Store.get [(bg, y)] bg = some y from fun y => by simp [Store.get]]; exact congrArg (fun r => some (Box.arr 5 r cg)) hsr) ?_
            refine weak (mk [(3, .int .i64 b), (16, .sl 5 ((stL l x l.length).map nrow) .no), (17, .sl 5 ((setP (goL l x l.length) p).map nrow) .no)]) (EnvLe.of_l ⟨rfl, rfl, ?_, trivial⟩) (List.nil_sublist _) ?_
            · show fra _ _ _ (.arr bg 5 _ cg) = _
              exact fra_arr ⟨by rw [List.length_map, hspl], hcg, by unfold lim; omega⟩
            refine sq ?_
            refine rg [19] [] [] (by kernel_rfl) ?_; intro κ ξ hκ hξ
            try simp (config := { decide := true }) only [go_sem, Nat.reduceMul, Nat.reduceAdd, Nat.reduceBEq, cond_false, ht, c0, hb12, hb14, c1, hfi, hfd, hfk, hil3, hkl3, hst, Int.toNat_natCast, hgl0, c2, c3]
            repeat with_reducible refine And.intro (by first | assumption | omega | (simp; done) | (simp; omega) | (intro hg; simp (config := { decide := true }) only [go_sem, hg]; done) | (intro hg; simp (config := { decide := true }) only [go_sem, hg]; omega)) ?_
            refine callP (by have h := tput_w (stL l x l.length) (setP (goL l x l.length) p) .no .no b hpi (by omega) (by omega); change PCall _ _ _ (.sl 5 ((mvR l x p b).map nrow) .no) at h; exact h) ?_
            try simp (config := { decide := true }) only [go_sem, Nat.reduceMul, Nat.reduceAdd, Nat.reduceBEq, cond_false, ht, c0, hb12, hb14, c1, hfi, hfd, hfk, hil3, hkl3, hst, Int.toNat_natCast, hgl0, c2, c3]
            repeat with_reducible refine And.intro (by first | assumption | omega | (simp; done) | (simp; omega) | (intro hg; simp (config := { decide := true }) only [go_sem, hg]; done) | (intro hg; simp (config := { decide := true }) only [go_sem, hg]; omega)) ?_
            refine hκ _ _ ?_; clear hκ hξ ξ κ
            refine sq ?_
            refine sq ?_
            refine rg [19, 120] [] [] (by kernel_rfl) ?_; intro κ ξ hκ hξ
            try simp (config := { decide := true }) only [go_sem, Nat.reduceMul, Nat.reduceAdd, Nat.reduceBEq, cond_false, ht, c0, hb12, hb14, c1, hfi, hfd, hfk, hil3, hkl3, hst, Int.toNat_natCast, hgl0, c2, c3]
            repeat with_reducible refine And.intro (by first | assumption | omega | (simp; done) | (simp; omega) | (intro hg; simp (config := { decide := true }) only [go_sem, hg]; done) | (intro hg; simp (config := { decide := true }) only [go_sem, hg]; omega)) ?_
            refine callF (tre_w _ _) ?_
            try simp (config := { decide := true }) only [go_sem, Nat.reduceMul, Nat.reduceAdd, Nat.reduceBEq, cond_false, ht, c0, hb12, hb14, c1, hfi, hfd, hfk, hil3, hkl3, hst, Int.toNat_natCast, hgl0, c2, c3]
            repeat with_reducible refine And.intro (by first | assumption | omega | (simp; done) | (simp; omega) | (intro hg; simp (config := { decide := true }) only [go_sem, hg]; done) | (intro hg; simp (config := { decide := true }) only [go_sem, hg]; omega)) ?_
            refine hκ _ _ ?_; clear hκ hξ ξ κ
            refine cd (by rfl) (fun c4 => ?_) (fun c4 => ?_)
            · skip
              refine sq ?_
              refine rg [8, 9] [] [] (by kernel_rfl) ?_; intro κ ξ hκ hξ
              try simp (config := { decide := true }) only [go_sem, Nat.reduceMul, Nat.reduceAdd, Nat.reduceBEq, cond_false, ht, c0, hb12, hb14, c1, hfi, hfd, hfk, hil3, hkl3, hst, Int.toNat_natCast, hgl0, c2, c3, c4]
              repeat with_reducible refine And.intro (by first | assumption | omega | (simp; done) | (simp; omega) | (intro hg; simp (config := { decide := true }) only [go_sem, hg]; done) | (intro hg; simp (config := { decide := true }) only [go_sem, hg]; omega)) ?_
              refine hκ _ _ ?_; clear hκ hξ ξ κ
              refine rt ?_
              refine retL ?_
              simp (config := { decide := true }) only [go_sem, resD, resV, ht, c0, hb12, hb14, c1, hfi, hfd, hfk, hil3, hkl3, hst, Int.toNat_natCast, hgl0, c2, c3, c4]
              exact err_le (by simp (config := { decide := true }) only [mvE, ht, Bool.false_eq_true, if_true, if_false, c0, c1, c2, c3, c4]) (by decide)
            · skip
              refine sk ?_
              refine sq ?_
              refine rg [8, 9] [] [] (by kernel_rfl) ?_; intro κ ξ hκ hξ
              try simp (config := { decide := true }) only [go_sem, Nat.reduceMul, Nat.reduceAdd, Nat.reduceBEq, cond_false, ht, c0, hb12, hb14, c1, hfi, hfd, hfk, hil3, hkl3, hst, Int.toNat_natCast, hgl0, c2, c3, c4]
              repeat with_reducible refine And.intro (by first | assumption | omega | (simp; done) | (simp; omega) | (intro hg; simp (config := { decide := true }) only [go_sem, hg]; done) | (intro hg; simp (config := { decide := true }) only [go_sem, hg]; omega)) ?_
              refine hκ _ _ ?_; clear hκ hξ ξ κ
              refine rt ?_
              refine retL ?_
              simp (config := { decide := true }) only [go_sem, resD, resV, ht, c0, hb12, hb14, c1, hfi, hfd, hfk, hil3, hkl3, hst, Int.toNat_natCast, hgl0, c2, c3, c4]
              exact ok_le (by simp (config := { decide := true }) only [mvE, ht, Bool.false_eq_true, if_true, if_false, c0, c1, c2, c3, c4])

theorem rmv_w (l : List Nd) (t : Tok) (x p b : Int) : PCall Try.prog (.func 48) [.sl 5 (l.map nrow) t, .int .i64 x, .int .i64 p, .int .i64 b] (.tup [.sl 5 ((mvL l x p b).map nrow) .no, .int .i64 (mvE l x p b)]) := by
  refine PCall.le ?_
  refine fn_ Try.func48 (by rfl) (by rfl) (rs := [.tmp 8, .tmp 9]) (by rfl) (by simp [Try.f48]) ?_
  refine sq ?_
  refine rg [0, 1, 2, 3] [] [] (by kernel_rfl) ?_; intro κ ξ hκ hξ
  try simp (config := { decide := true }) only [go_sem, Nat.reduceMul, Nat.reduceAdd, Nat.reduceBEq, cond_false]
  repeat with_reducible refine And.intro (by first | assumption | omega | (simp; done) | (simp; omega) | (intro hg; simp (config := { decide := true }) only [go_sem, hg]; done) | (intro hg; simp (config := { decide := true }) only [go_sem, hg]; omega)) ?_
  refine hκ _ _ ?_; clear hκ hξ ξ κ
  refine sq ?_
  cases ht : treB l
  · skip
    refine rg [0, 1, 2, 3, 10] [] [] (by kernel_rfl) ?_; intro κ ξ hκ hξ
    try simp (config := { decide := true }) only [go_sem, Nat.reduceMul, Nat.reduceAdd, Nat.reduceBEq, cond_false, ht]
    repeat with_reducible refine And.intro (by first | assumption | omega | (simp; done) | (simp; omega) | (intro hg; simp (config := { decide := true }) only [go_sem, hg]; done) | (intro hg; simp (config := { decide := true }) only [go_sem, hg]; omega)) ?_
    refine callF (rtre_w _ _) ?_
    try simp (config := { decide := true }) only [go_sem, Nat.reduceMul, Nat.reduceAdd, Nat.reduceBEq, cond_false, ht]
    repeat with_reducible refine And.intro (by first | assumption | omega | (simp; done) | (simp; omega) | (intro hg; simp (config := { decide := true }) only [go_sem, hg]; done) | (intro hg; simp (config := { decide := true }) only [go_sem, hg]; omega)) ?_
    refine hκ _ _ ?_; clear hκ hξ ξ κ
    refine sq ?_
    refine sq ?_
    refine rg [0, 1, 2, 3, 39] [] [(2, 21), (7, 26), (12, 31), (15, 34)] (by kernel_rfl) ?_; intro κ ξ hκ hξ
    try simp (config := { decide := true }) only [go_sem, Nat.reduceMul, Nat.reduceAdd, Nat.reduceBEq, cond_false, ht]
    repeat with_reducible refine And.intro (by first | assumption | omega | (simp; done) | (simp; omega) | (intro hg; simp (config := { decide := true }) only [go_sem, hg]; done) | (intro hg; simp (config := { decide := true }) only [go_sem, hg]; omega)) ?_
    refine vo_gc ?_; simp (config := { decide := true }) only [go_sem, ht]; refine gcallF (fun hg => ⟨by first | rfl | (simp (config := { decide := true }) only [go_sem, hg, ht]; done) | exact hg | simpa using hg, rid_w _⟩) ?_
    try simp (config := { decide := true }) only [go_sem, Nat.reduceMul, Nat.reduceAdd, Nat.reduceBEq, cond_false, ht]
    repeat with_reducible refine And.intro (by first | assumption | omega | (simp; done) | (simp; omega) | (intro hg; simp (config := { decide := true }) only [go_sem, hg]; done) | (intro hg; simp (config := { decide := true }) only [go_sem, hg]; omega)) ?_
    refine vo_gc ?_; simp (config := { decide := true }) only [go_sem, ht]; refine gcallF (fun hg => ⟨by first | rfl | (simp (config := { decide := true }) only [go_sem, hg, ht]; done) | exact hg | simpa using hg, rid_w _⟩) ?_
    try simp (config := { decide := true }) only [go_sem, Nat.reduceMul, Nat.reduceAdd, Nat.reduceBEq, cond_false, ht]
    repeat with_reducible refine And.intro (by first | assumption | omega | (simp; done) | (simp; omega) | (intro hg; simp (config := { decide := true }) only [go_sem, hg]; done) | (intro hg; simp (config := { decide := true }) only [go_sem, hg]; omega)) ?_
    refine vo_gc ?_; simp (config := { decide := true }) only [go_sem, ht]; refine gcallF (fun hg => ⟨by first | rfl | (simp (config := { decide := true }) only [go_sem, hg, ht]; done) | exact hg | simpa using hg, rid_w _⟩) ?_
    try simp (config := { decide := true }) only [go_sem, Nat.reduceMul, Nat.reduceAdd, Nat.reduceBEq, cond_false, ht]
    repeat with_reducible refine And.intro (by first | assumption | omega | (simp; done) | (simp; omega) | (intro hg; simp (config := { decide := true }) only [go_sem, hg]; done) | (intro hg; simp (config := { decide := true }) only [go_sem, hg]; omega)) ?_
    refine hκ _ _ ?_; clear hκ hξ ξ κ
    refine cdt (by rfl) ?_
    refine sq ?_
    refine rg [8, 9] [] [] (by kernel_rfl) ?_; intro κ ξ hκ hξ
    try simp (config := { decide := true }) only [go_sem, Nat.reduceMul, Nat.reduceAdd, Nat.reduceBEq, cond_false, ht]
    repeat with_reducible refine And.intro (by first | assumption | omega | (simp; done) | (simp; omega) | (intro hg; simp (config := { decide := true }) only [go_sem, hg]; done) | (intro hg; simp (config := { decide := true }) only [go_sem, hg]; omega)) ?_
    refine hκ _ _ ?_; clear hκ hξ ξ κ
    refine rt ?_
    refine retL ?_
    simp (config := { decide := true }) only [go_sem, resD, resV, ht]
    exact err_le (by simp (config := { decide := true }) only [mvE, ht, Bool.false_eq_true, if_true, if_false]) (by decide)
  · have hT := treB_true.1 ht
    have hl4 := hT.len
    refine rg [0, 1, 2, 3, 10] [] [] (by kernel_rfl) ?_; intro κ ξ hκ hξ
    try simp (config := { decide := true }) only [go_sem, Nat.reduceMul, Nat.reduceAdd, Nat.reduceBEq, cond_false, ht]
    repeat with_reducible refine And.intro (by first | assumption | omega | (simp; done) | (simp; omega) | (intro hg; simp (config := { decide := true }) only [go_sem, hg]; done) | (intro hg; simp (config := { decide := true }) only [go_sem, hg]; omega)) ?_
    refine callF (rtre_w _ _) ?_
    try simp (config := { decide := true }) only [go_sem, Nat.reduceMul, Nat.reduceAdd, Nat.reduceBEq, cond_false, ht]
    repeat with_reducible refine And.intro (by first | assumption | omega | (simp; done) | (simp; omega) | (intro hg; simp (config := { decide := true }) only [go_sem, hg]; done) | (intro hg; simp (config := { decide := true }) only [go_sem, hg]; omega)) ?_
    refine hκ _ _ ?_; clear hκ hξ ξ κ
    refine sq ?_
    refine sq ?_
    refine rg [0, 1, 2, 3, 39] [] [(2, 21), (7, 26), (12, 31), (15, 34)] (by kernel_rfl) ?_; intro κ ξ hκ hξ
    try simp (config := { decide := true }) only [go_sem, Nat.reduceMul, Nat.reduceAdd, Nat.reduceBEq, cond_false, ht]
    repeat with_reducible refine And.intro (by first | assumption | omega | (simp; done) | (simp; omega) | (intro hg; simp (config := { decide := true }) only [go_sem, hg]; done) | (intro hg; simp (config := { decide := true }) only [go_sem, hg]; omega)) ?_
    refine vo_gc ?_; simp (config := { decide := true }) only [go_sem, ht]; refine gcallF (fun hg => ⟨by first | rfl | (simp (config := { decide := true }) only [go_sem, hg, ht]; done) | exact hg | simpa using hg, rid_w _⟩) ?_
    try simp (config := { decide := true }) only [go_sem, Nat.reduceMul, Nat.reduceAdd, Nat.reduceBEq, cond_false, ht]
    repeat with_reducible refine And.intro (by first | assumption | omega | (simp; done) | (simp; omega) | (intro hg; simp (config := { decide := true }) only [go_sem, hg]; done) | (intro hg; simp (config := { decide := true }) only [go_sem, hg]; omega)) ?_
    refine vo_gc ?_; simp (config := { decide := true }) only [go_sem, ht]; refine gcallF (fun hg => ⟨by first | rfl | (simp (config := { decide := true }) only [go_sem, hg, ht]; done) | exact hg | simpa using hg, rid_w _⟩) ?_
    try simp (config := { decide := true }) only [go_sem, Nat.reduceMul, Nat.reduceAdd, Nat.reduceBEq, cond_false, ht]
    repeat with_reducible refine And.intro (by first | assumption | omega | (simp; done) | (simp; omega) | (intro hg; simp (config := { decide := true }) only [go_sem, hg]; done) | (intro hg; simp (config := { decide := true }) only [go_sem, hg]; omega)) ?_
    refine vo_gc ?_; simp (config := { decide := true }) only [go_sem, ht]; refine gcallF (fun hg => ⟨by first | rfl | (simp (config := { decide := true }) only [go_sem, hg, ht]; done) | exact hg | simpa using hg, rid_w _⟩) ?_
    try simp (config := { decide := true }) only [go_sem, Nat.reduceMul, Nat.reduceAdd, Nat.reduceBEq, cond_false, ht]
    repeat with_reducible refine And.intro (by first | assumption | omega | (simp; done) | (simp; omega) | (intro hg; simp (config := { decide := true }) only [go_sem, hg]; done) | (intro hg; simp (config := { decide := true }) only [go_sem, hg]; omega)) ?_
    refine hκ _ _ ?_; clear hκ hξ ξ κ
    refine cd (by rfl) (fun c0 => ?_) (fun c0 => ?_)
    · skip
      refine sq ?_
      refine rg [8, 9] [] [] (by kernel_rfl) ?_; intro κ ξ hκ hξ
      try simp (config := { decide := true }) only [go_sem, Nat.reduceMul, Nat.reduceAdd, Nat.reduceBEq, cond_false, ht, c0]
      repeat with_reducible refine And.intro (by first | assumption | omega | (simp; done) | (simp; omega) | (intro hg; simp (config := { decide := true }) only [go_sem, hg]; done) | (intro hg; simp (config := { decide := true }) only [go_sem, hg]; omega)) ?_
      refine hκ _ _ ?_; clear hκ hξ ξ κ
      refine rt ?_
      refine retL ?_
      simp (config := { decide := true }) only [go_sem, resD, resV, ht, c0]
      exact err_le (by simp (config := { decide := true }) only [mvE, ht, Bool.false_eq_true, if_true, if_false, c0]) (by decide)
    · skip
      refine sk ?_
      refine sq ?_
      refine rg [0, 1, 2, 3, 11] [] [] (by kernel_rfl) ?_; intro κ ξ hκ hξ
      try simp (config := { decide := true }) only [go_sem, Nat.reduceMul, Nat.reduceAdd, Nat.reduceBEq, cond_false, ht, c0]
      repeat with_reducible refine And.intro (by first | assumption | omega | (simp; done) | (simp; omega) | (intro hg; simp (config := { decide := true }) only [go_sem, hg]; done) | (intro hg; simp (config := { decide := true }) only [go_sem, hg]; omega)) ?_
      refine callF (ridx_w _ _ _) ?_
      try simp (config := { decide := true }) only [go_sem, Nat.reduceMul, Nat.reduceAdd, Nat.reduceBEq, cond_false, ht, c0]
      repeat with_reducible refine And.intro (by first | assumption | omega | (simp; done) | (simp; omega) | (intro hg; simp (config := { decide := true }) only [go_sem, hg]; done) | (intro hg; simp (config := { decide := true }) only [go_sem, hg]; omega)) ?_
      refine hκ _ _ ?_; clear hκ hξ ξ κ
      refine sq ?_
      refine rg [0, 1, 2, 3, 11, 12] [] [] (by kernel_rfl) ?_; intro κ ξ hκ hξ
      try simp (config := { decide := true }) only [go_sem, Nat.reduceMul, Nat.reduceAdd, Nat.reduceBEq, cond_false, ht, c0]
      repeat with_reducible refine And.intro (by first | assumption | omega | (simp; done) | (simp; omega) | (intro hg; simp (config := { decide := true }) only [go_sem, hg]; done) | (intro hg; simp (config := { decide := true }) only [go_sem, hg]; omega)) ?_
      refine callF (ridx_w _ _ _) ?_
      try simp (config := { decide := true }) only [go_sem, Nat.reduceMul, Nat.reduceAdd, Nat.reduceBEq, cond_false, ht, c0]
      repeat with_reducible refine And.intro (by first | assumption | omega | (simp; done) | (simp; omega) | (intro hg; simp (config := { decide := true }) only [go_sem, hg]; done) | (intro hg; simp (config := { decide := true }) only [go_sem, hg]; omega)) ?_
      refine hκ _ _ ?_; clear hκ hξ ξ κ
      refine sq ?_
      refine sq ?_
      refine rg [0, 1, 2, 3, 11, 12, 51] [] [(2, 48)] (by kernel_rfl) ?_; intro κ ξ hκ hξ
      try simp (config := { decide := true }) only [go_sem, Nat.reduceMul, Nat.reduceAdd, Nat.reduceBEq, cond_false, ht, c0]
      repeat with_reducible refine And.intro (by first | assumption | omega | (simp; done) | (simp; omega) | (intro hg; simp (config := { decide := true }) only [go_sem, hg]; done) | (intro hg; simp (config := { decide := true }) only [go_sem, hg]; omega)) ?_
      refine hκ _ _ ?_; clear hκ hξ ξ κ
      refine cd (by rfl) (fun c1 => ?_) (fun c1 => ?_)
      · have c1 : (!decide (0 ≤ idx l x) || !decide (0 ≤ idx l p)) = true := by simpa using c1
        refine sq ?_
        refine rg [8, 9] [] [] (by kernel_rfl) ?_; intro κ ξ hκ hξ
        try simp (config := { decide := true }) only [go_sem, Nat.reduceMul, Nat.reduceAdd, Nat.reduceBEq, cond_false, ht, c0, c1]
        repeat with_reducible refine And.intro (by first | assumption | omega | (simp; done) | (simp; omega) | (intro hg; simp (config := { decide := true }) only [go_sem, hg]; done) | (intro hg; simp (config := { decide := true }) only [go_sem, hg]; omega)) ?_
        refine hκ _ _ ?_; clear hκ hξ ξ κ
        refine rt ?_
        refine retL ?_
        simp (config := { decide := true }) only [go_sem, resD, resV, ht, c0, c1]
        exact err_le (by simp (config := { decide := true }) only [mvE, ht, Bool.false_eq_true, if_true, if_false, c0, c1]) (by decide)
      · have c1 : (!decide (0 ≤ idx l x) || !decide (0 ≤ idx l p)) = false := by simpa using c1
        obtain ⟨hix, hip⟩ : 0 ≤ idx l x ∧ 0 ≤ idx l p := by simpa using c1
        obtain ⟨i, hi1, hi, hfi, hfd⟩ := idx_nat hix
        obtain ⟨k, hk1, hk, hfk, hfe⟩ := idx_nat hip
        have hil3 : (i : Int) < (l.length : Int) := by omega
        have hkl3 : (k : Int) < (l.length : Int) := by omega
        have hst := stP_R hT (nat l i).kind hk
        have hin : (idx l x).toNat = i := by omega
        have hkn : (idx l p).toNat = k := by omega
        have hx1 := (idB_true.1 (show idB x = true by rw [← idx_id hix, hin]; have := fm_id (hT.form i hi); simp [idB]; omega)).1
        have hgo := goL_par (x := x) hT hip
        have hgz := goL_idx hT hix
        obtain ⟨hg0, hgne⟩ := goL_ne hT hix
        have hgl := goL_len l x l.length
        have hsl := stL_len l x l.length
        have hgl0 : (0 : Int) < ((goL l x l.length).length : Int) := by omega
        have hpo : setP (goL l x l.length) p ≠ [] := by intro e; have := congrArg List.length e; rw [setP_len] at this; have h3 : ([] : List Nd).length = 0 := rfl; omega
        have hsr := setP_row hgne p
        have hspl := setP_len (goL l x l.length) p
        refine weak _ (EnvLe.refl _) (List.nil_sublist _) ?_
        refine sk ?_
        refine sq ?_
        refine sq ?_
        refine rg [0, 1, 2, 3, 11, 12, 77] [] [(2, 54), (9, 61), (12, 64), (16, 68)] (by kernel_rfl) ?_; intro κ ξ hκ hξ
        try simp (config := { decide := true }) only [go_sem, Nat.reduceMul, Nat.reduceAdd, Nat.reduceBEq, cond_false, ht, c0, c1, hi1, hk1, hil3, hkl3, hst, Int.toNat_natCast, hgl0]
        repeat with_reducible refine And.intro (by first | assumption | omega | (simp; done) | (simp; omega) | (intro hg; simp (config := { decide := true }) only [go_sem, hg]; done) | (intro hg; simp (config := { decide := true }) only [go_sem, hg]; omega)) ?_
        refine vo_gc ?_; simp (config := { decide := true }) only [go_sem, ht, c0, c1, hi1, hk1, hil3, hkl3, hst, Int.toNat_natCast, hgl0]; refine gcallF (fun hg => ⟨by first | rfl | (simp (config := { decide := true }) only [go_sem, hg]; done) | exact hg | simpa using hg, ways_w t hT hip⟩) ?_
        try simp (config := { decide := true }) only [go_sem, Nat.reduceMul, Nat.reduceAdd, Nat.reduceBEq, cond_false, ht, c0, c1, hi1, hk1, hil3, hkl3, hst, Int.toNat_natCast, hgl0]
        repeat with_reducible refine And.intro (by first | assumption | omega | (simp; done) | (simp; omega) | (intro hg; simp (config := { decide := true }) only [go_sem, hg]; done) | (intro hg; simp (config := { decide := true }) only [go_sem, hg]; omega)) ?_
        refine vo_gc ?_; simp (config := { decide := true }) only [go_sem, ht, c0, c1, hi1, hk1, hil3, hkl3, hst, Int.toNat_natCast, hgl0]; refine gcallF (fun hg => ⟨by first | rfl | (simp (config := { decide := true }) only [go_sem, hg, ht, c0, c1, hi1, hk1, hil3, hkl3, hst, Int.toNat_natCast, hgl0]; done) | exact hg | simpa using hg, rhas_w _ _ _⟩) ?_
        try simp (config := { decide := true }) only [go_sem, Nat.reduceMul, Nat.reduceAdd, Nat.reduceBEq, cond_false, ht, c0, c1, hi1, hk1, hil3, hkl3, hst, Int.toNat_natCast, hgl0]
        repeat with_reducible refine And.intro (by first | assumption | omega | (simp; done) | (simp; omega) | (intro hg; simp (config := { decide := true }) only [go_sem, hg]; done) | (intro hg; simp (config := { decide := true }) only [go_sem, hg]; omega)) ?_
        refine vo_gc ?_; simp (config := { decide := true }) only [go_sem, ht, c0, c1, hi1, hk1, hil3, hkl3, hst, Int.toNat_natCast, hgl0]; refine gcallF (fun hg => ⟨by first | rfl | (simp (config := { decide := true }) only [go_sem, hg, ht, c0, c1, hi1, hk1, hil3, hkl3, hst, Int.toNat_natCast, hgl0]; done) | exact hg | simpa using hg, rkids_w _ _ _ (by omega)⟩) ?_
        try simp (config := { decide := true }) only [go_sem, Nat.reduceMul, Nat.reduceAdd, Nat.reduceBEq, cond_false, ht, c0, c1, hi1, hk1, hil3, hkl3, hst, Int.toNat_natCast, hgl0]
        repeat with_reducible refine And.intro (by first | assumption | omega | (simp; done) | (simp; omega) | (intro hg; simp (config := { decide := true }) only [go_sem, hg]; done) | (intro hg; simp (config := { decide := true }) only [go_sem, hg]; omega)) ?_
        refine vo_gc ?_; simp (config := { decide := true }) only [go_sem, ht, c0, c1, hi1, hk1, hil3, hkl3, hst, Int.toNat_natCast, hgl0]; refine gcallF (fun hg => ⟨by first | rfl | (simp (config := { decide := true }) only [go_sem, hg, ht, c0, c1, hi1, hk1, hil3, hkl3, hst, Int.toNat_natCast, hgl0]; done) | exact hg | simpa using hg, rhas_w _ _ _⟩) ?_
        try simp (config := { decide := true }) only [go_sem, Nat.reduceMul, Nat.reduceAdd, Nat.reduceBEq, cond_false, ht, c0, c1, hi1, hk1, hil3, hkl3, hst, Int.toNat_natCast, hgl0]
        repeat with_reducible refine And.intro (by first | assumption | omega | (simp; done) | (simp; omega) | (intro hg; simp (config := { decide := true }) only [go_sem, hg]; done) | (intro hg; simp (config := { decide := true }) only [go_sem, hg]; omega)) ?_
        refine hκ _ _ ?_; clear hκ hξ ξ κ
        refine cd (by rfl) (fun c2 => ?_) (fun c2 => ?_)
        · rw [← hi1, ← hkn] at c2
          change (decide (idx l x = 0) || goB l x (idx l p).toNat || (!decide (b = 0) && (decide (b = x) || !iin (kidsL l p) b))) = true at c2
          refine sq ?_
          refine rg [8, 9] [] [] (by kernel_rfl) ?_; intro κ ξ hκ hξ
          try simp (config := { decide := true }) only [go_sem, Nat.reduceMul, Nat.reduceAdd, Nat.reduceBEq, cond_false, ht, c0, c1, hi1, hk1, hil3, hkl3, hst, Int.toNat_natCast, hgl0, c2]
          repeat with_reducible refine And.intro (by first | assumption | omega | (simp; done) | (simp; omega) | (intro hg; simp (config := { decide := true }) only [go_sem, hg]; done) | (intro hg; simp (config := { decide := true }) only [go_sem, hg]; omega)) ?_
          refine hκ _ _ ?_; clear hκ hξ ξ κ
          refine rt ?_
          refine retL ?_
          simp (config := { decide := true }) only [go_sem, resD, resV, ht, c0, c1, hi1, hk1, hil3, hkl3, hst, Int.toNat_natCast, hgl0, c2]
          exact err_le (by simp (config := { decide := true }) only [mvE, ht, Bool.false_eq_true, if_true, if_false, c0, c1, c2]) (by decide)
        · rw [← hi1, ← hkn] at c2
          change (decide (idx l x = 0) || goB l x (idx l p).toNat || (!decide (b = 0) && (decide (b = x) || !iin (kidsL l p) b))) = false at c2
          have hpi := putI_mv hT hip (b := b) (x := x) (by cases e : goB l x (idx l p).toNat <;> simp [e] at c2 ⊢) (by revert c2; cases (decide (b = x) || !iin (kidsL l p) b) <;> cases (decide (b = 0)) <;> simp)
          refine sk ?_
          refine sq ?_
          refine sq ?_
          refine rgd [0, 1, 2, 3, 89] [] [88] [] (by kernel_rfl) (by kernel_rfl) ?_; intro κ ξ hκ hξ
          try simp (config := { decide := true }) only [go_sem, Nat.reduceMul, Nat.reduceAdd, Nat.reduceBEq, cond_false, ht, c0, c1, hi1, hk1, hil3, hkl3, hst, Int.toNat_natCast, hgl0, c2]
          repeat with_reducible refine And.intro (by first | assumption | omega | (simp; done) | (simp; omega) | (intro hg; simp (config := { decide := true }) only [go_sem, hg]; done) | (intro hg; simp (config := { decide := true }) only [go_sem, hg]; omega)) ?_
          refine scallF (rstands_w _ _) ?_
          try simp (config := { decide := true }) only [go_sem, Nat.reduceMul, Nat.reduceAdd, Nat.reduceBEq, cond_false, ht, c0, c1, hi1, hk1, hil3, hkl3, hst, Int.toNat_natCast, hgl0, c2]
          repeat with_reducible refine And.intro (by first | assumption | omega | (simp; done) | (simp; omega) | (intro hg; simp (config := { decide := true }) only [go_sem, hg]; done) | (intro hg; simp (config := { decide := true }) only [go_sem, hg]; omega)) ?_
          refine hκ _ _ ?_; clear hκ hξ ξ κ
          refine cd (by rfl) (fun c3 => ?_) (fun c3 => ?_)
          · rw [← hin, ← hkn] at c3
            refine sq ?_
            refine rg [8, 9] [] [] (by kernel_rfl) ?_; intro κ ξ hκ hξ
            try simp (config := { decide := true }) only [go_sem, Nat.reduceMul, Nat.reduceAdd, Nat.reduceBEq, cond_false, ht, c0, c1, hi1, hk1, hil3, hkl3, hst, Int.toNat_natCast, hgl0, c2, c3]
            repeat with_reducible refine And.intro (by first | assumption | omega | (simp; done) | (simp; omega) | (intro hg; simp (config := { decide := true }) only [go_sem, hg]; done) | (intro hg; simp (config := { decide := true }) only [go_sem, hg]; omega)) ?_
            refine hκ _ _ ?_; clear hκ hξ ξ κ
            refine rt ?_
            refine retL ?_
            simp (config := { decide := true }) only [go_sem, resD, resV, ht, c0, c1, hi1, hk1, hil3, hkl3, hst, Int.toNat_natCast, hgl0, c2, c3]
            exact err_le (by simp (config := { decide := true }) only [mvE, ht, Bool.false_eq_true, if_true, if_false, c0, c1, c2, c3]) (by decide)
          · rw [← hin, ← hkn] at c3
            refine sk ?_
            refine sq ?_
            refine rg [1, 2, 3, 13, 14] [] [] (by kernel_rfl) ?_; intro κ ξ hκ hξ
            try simp (config := { decide := true }) only [go_sem, Nat.reduceMul, Nat.reduceAdd, Nat.reduceBEq, cond_false, ht, c0, c1, hi1, hk1, hil3, hkl3, hst, Int.toNat_natCast, hgl0, c2, c3]
            repeat with_reducible refine And.intro (by first | assumption | omega | (simp; done) | (simp; omega) | (intro hg; simp (config := { decide := true }) only [go_sem, hg]; done) | (intro hg; simp (config := { decide := true }) only [go_sem, hg]; omega)) ?_
            refine callR (rsplit_w l t x hT hx1 hix) fun ⟨bg, cg⟩ hcg => ?_
            try simp (config := { decide := true }) only [go_sem, Nat.reduceMul, Nat.reduceAdd, Nat.reduceBEq, cond_false, ht, c0, c1, hi1, hk1, hil3, hkl3, hst, Int.toNat_natCast, hgl0, c2, c3]
            repeat with_reducible refine And.intro (by first | assumption | omega | (simp; done) | (simp; omega) | (intro hg; simp (config := { decide := true }) only [go_sem, hg]; done) | (intro hg; simp (config := { decide := true }) only [go_sem, hg]; omega)) ?_
            refine hκ _ _ ?_; clear hκ hξ ξ κ
            refine sq ?_
            refine rg [3, 13, 14] [] [] (by kernel_rfl) ?_; intro κ ξ hκ hξ
            try simp (config := { decide := true }) only [go_sem, Nat.reduceMul, Nat.reduceAdd, Nat.reduceBEq, cond_false, ht, c0, c1, hi1, hk1, hil3, hkl3, hst, Int.toNat_natCast, hgl0, c2, c3]
            repeat with_reducible refine And.intro (by first | assumption | omega | (simp; done) | (simp; omega) | (intro hg; simp (config := { decide := true }) only [go_sem, hg]; done) | (intro hg; simp (config := { decide := true }) only [go_sem, hg]; omega)) ?_
            refine callL1 (rows := (goL l x l.length).map nrow) (by have h := ridx_w (goL l x l.length) .no x; rw [hgz] at h; have e := fra_arr (b := bg) (sz := 5) (n := (goL l x l.length).length) (cap := cg) (rows := (goL l x l.length).map nrow) ⟨by rw [List.length_map], hcg, by unfold lim; omega⟩; show PCall _ _ [fra _ _ _ (.arr bg 5 _ cg), _] _; rw [e]; exact h) rfl ?_
            try simp (config := { decide := true }) only [go_sem, Nat.reduceMul, Nat.reduceAdd, Nat.reduceBEq, cond_false, ht, c0, c1, hi1, hk1, hil3, hkl3, hst, Int.toNat_natCast, hgl0, c2, c3]
            repeat with_reducible refine And.intro (by first | assumption | omega | (simp; done) | (simp; omega) | (intro hg; simp (config := { decide := true }) only [go_sem, hg]; done) | (intro hg; simp (config := { decide := true }) only [go_sem, hg]; omega)) ?_
            refine hκ _ _ ?_; clear hκ hξ ξ κ
            refine fza bg [14] [] (sz := 5) (rows := (setP (goL l x l.length) p).map nrow) (cap := cg) (by rw [show ∀ y, Store.get [(bg, y)] bg = some y from fun y => by simp [Store.get]]; exact congrArg (fun r => some (Box.arr 5 r cg)) hsr) ?_
            refine weak (mk [(3, .int .i64 b), (13, .sl 5 ((stL l x l.length).map nrow) .no), (14, .sl 5 ((setP (goL l x l.length) p).map nrow) .no)]) (EnvLe.of_l ⟨rfl, rfl, ?_, trivial⟩) (List.nil_sublist _) ?_
            · show fra _ _ _ (.arr bg 5 _ cg) = _
              exact fra_arr ⟨by rw [List.length_map, hspl], hcg, by unfold lim; omega⟩
            refine sq ?_
            refine rg [15] [] [] (by kernel_rfl) ?_; intro κ ξ hκ hξ
            try simp (config := { decide := true }) only [go_sem, Nat.reduceMul, Nat.reduceAdd, Nat.reduceBEq, cond_false, ht, c0, c1, hi1, hk1, hil3, hkl3, hst, Int.toNat_natCast, hgl0, c2, c3]
            repeat with_reducible refine And.intro (by first | assumption | omega | (simp; done) | (simp; omega) | (intro hg; simp (config := { decide := true }) only [go_sem, hg]; done) | (intro hg; simp (config := { decide := true }) only [go_sem, hg]; omega)) ?_
            refine callP (by have h := rput_w (stL l x l.length) (setP (goL l x l.length) p) .no .no b hpi (by omega) (by omega); change PCall _ _ _ (.sl 5 ((mvR l x p b).map nrow) .no) at h; exact h) ?_
            try simp (config := { decide := true }) only [go_sem, Nat.reduceMul, Nat.reduceAdd, Nat.reduceBEq, cond_false, ht, c0, c1, hi1, hk1, hil3, hkl3, hst, Int.toNat_natCast, hgl0, c2, c3]
            repeat with_reducible refine And.intro (by first | assumption | omega | (simp; done) | (simp; omega) | (intro hg; simp (config := { decide := true }) only [go_sem, hg]; done) | (intro hg; simp (config := { decide := true }) only [go_sem, hg]; omega)) ?_
            refine hκ _ _ ?_; clear hκ hξ ξ κ
            refine sq ?_
            refine rg [15, 16] [] [] (by kernel_rfl) ?_; intro κ ξ hκ hξ
            try simp (config := { decide := true }) only [go_sem, Nat.reduceMul, Nat.reduceAdd, Nat.reduceBEq, cond_false, ht, c0, c1, hi1, hk1, hil3, hkl3, hst, Int.toNat_natCast, hgl0, c2, c3]
            repeat with_reducible refine And.intro (by first | assumption | omega | (simp; done) | (simp; omega) | (intro hg; simp (config := { decide := true }) only [go_sem, hg]; done) | (intro hg; simp (config := { decide := true }) only [go_sem, hg]; omega)) ?_
            refine callF (rtre_w _ _) ?_
            try simp (config := { decide := true }) only [go_sem, Nat.reduceMul, Nat.reduceAdd, Nat.reduceBEq, cond_false, ht, c0, c1, hi1, hk1, hil3, hkl3, hst, Int.toNat_natCast, hgl0, c2, c3]
            repeat with_reducible refine And.intro (by first | assumption | omega | (simp; done) | (simp; omega) | (intro hg; simp (config := { decide := true }) only [go_sem, hg]; done) | (intro hg; simp (config := { decide := true }) only [go_sem, hg]; omega)) ?_
            refine hκ _ _ ?_; clear hκ hξ ξ κ
            refine sq ?_
            refine sq ?_
            refine rg [15, 110] [] [] (by kernel_rfl) ?_; intro κ ξ hκ hξ
            try simp (config := { decide := true }) only [go_sem, Nat.reduceMul, Nat.reduceAdd, Nat.reduceBEq, cond_false, ht, c0, c1, hi1, hk1, hil3, hkl3, hst, Int.toNat_natCast, hgl0, c2, c3]
            repeat with_reducible refine And.intro (by first | assumption | omega | (simp; done) | (simp; omega) | (intro hg; simp (config := { decide := true }) only [go_sem, hg]; done) | (intro hg; simp (config := { decide := true }) only [go_sem, hg]; omega)) ?_
            refine hκ _ _ ?_; clear hκ hξ ξ κ
            refine cd (by rfl) (fun c4 => ?_) (fun c4 => ?_)
            · skip
              refine sq ?_
              refine rg [8, 9] [] [] (by kernel_rfl) ?_; intro κ ξ hκ hξ
              try simp (config := { decide := true }) only [go_sem, Nat.reduceMul, Nat.reduceAdd, Nat.reduceBEq, cond_false, ht, c0, c1, hi1, hk1, hil3, hkl3, hst, Int.toNat_natCast, hgl0, c2, c3, c4]
              repeat with_reducible refine And.intro (by first | assumption | omega | (simp; done) | (simp; omega) | (intro hg; simp (config := { decide := true }) only [go_sem, hg]; done) | (intro hg; simp (config := { decide := true }) only [go_sem, hg]; omega)) ?_
              refine hκ _ _ ?_; clear hκ hξ ξ κ
              refine rt ?_
              refine retL ?_
              simp (config := { decide := true }) only [go_sem, resD, resV, ht, c0, c1, hi1, hk1, hil3, hkl3, hst, Int.toNat_natCast, hgl0, c2, c3, c4]
              exact err_le (by simp (config := { decide := true }) only [mvE, ht, Bool.false_eq_true, if_true, if_false, c0, c1, c2, c3, c4]) (by decide)
            · skip
              refine sk ?_
              refine sq ?_
              refine rg [8, 9] [] [] (by kernel_rfl) ?_; intro κ ξ hκ hξ
              try simp (config := { decide := true }) only [go_sem, Nat.reduceMul, Nat.reduceAdd, Nat.reduceBEq, cond_false, ht, c0, c1, hi1, hk1, hil3, hkl3, hst, Int.toNat_natCast, hgl0, c2, c3, c4]
              repeat with_reducible refine And.intro (by first | assumption | omega | (simp; done) | (simp; omega) | (intro hg; simp (config := { decide := true }) only [go_sem, hg]; done) | (intro hg; simp (config := { decide := true }) only [go_sem, hg]; omega)) ?_
              refine hκ _ _ ?_; clear hκ hξ ξ κ
              refine rt ?_
              refine retL ?_
              simp (config := { decide := true }) only [go_sem, resD, resV, ht, c0, c1, hi1, hk1, hil3, hkl3, hst, Int.toNat_natCast, hgl0, c2, c3, c4]
              exact ok_le (by simp (config := { decide := true }) only [mvE, ht, Bool.false_eq_true, if_true, if_false, c0, c1, c2, c3, c4])

end Go.Proofs.Ytgccnkihonmlbaa

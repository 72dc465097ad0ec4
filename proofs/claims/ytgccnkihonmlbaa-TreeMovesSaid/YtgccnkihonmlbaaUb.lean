/- The walk of the law TreeMoves. Printed by a tool of our own. -/
import Derived.Test.YtgccnkihonmlbaaUy
import Derived.Test.YtgccnkihonmlbaaUz
namespace Go.Proofs.Ytgccnkihonmlbaa
open Go Go.RowKit
set_option linter.unusedSimpArgs false
set_option linter.unusedVariables false
set_option maxHeartbeats 4000000
set_option maxRecDepth 100000
attribute [local go_sem ↓] vo_nil vK_eq vo_q vo_g vo_n vo_c vd_nil dK_eq eK_eq vd_q vd_g vd_n vd_st vd_c cgs_call cgs_builtin
attribute [local go_sem] Ext_refl Ext_cons
attribute [local go_sem] quiet_move quiet_assign quiet_pick quiet_binOp quiet_unOp quiet_convert quiet_field quiet_fieldAddr quiet_indexAddr quiet_index quiet_load quiet_lookup quiet_extract quiet_build quiet_makeInterface quiet_makeFunc quiet_slice quiet_nilCheck quiet_alloc isCall_alloc quiet_box isCall_box quiet_buildSlice isCall_buildSlice quiet_store isCall_store quiet_range isCall_range quiet_next isCall_next quiet_makeSlice isCall_makeSlice quiet_panic isCall_panic quiet_len quiet_cap quiet_min quiet_max quiet_append isCall_append quiet_copy isCall_copy quiet_delete isCall_delete nqk_alloc nqk_box nqk_buildSlice nqk_range nqk_next nqk_makeSlice nqk_panic nqk_makeMap nqk_entry nqk_append nqk_copy nqk_delete isSt_alloc isSt_box isSt_buildSlice isSt_range isSt_next isSt_makeSlice isSt_panic isSt_makeMap isSt_entry isSt_store isSt_mapUpdate isSt_insert isSt_append isSt_copy isSt_delete quiet_makeMap isCall_makeMap quiet_mapUpdate isCall_mapUpdate quiet_insert isCall_insert
attribute [local go_sem] argEnv qev opd put_some put_none set_at mk_cons mk_nil prune_eq D.ofV ofC_int ofC_nil ofC_str ofC_nilmap ofC_nilfunc ofC_nilptr true_and ofC_bool bop isSh ibop Bool.false_eq_true if_false if_true and_self D.core D.cg qpick isB bof gval look Option.bind_some opc cgs Op.operands List.all_cons List.all_nil Bool.and_true and_true true_imp_iff imp_self false_imp_iff beq_true beq_false beq_iff_eq decide_eq_true_eq List.map_cons List.map_nil Bool.not_eq_true' decide_eq_false_iff_not gof gq gev cond_some Option.isSome_some Bool.or_eq_true Bool.and_eq_true Bool.or_eq_false_iff Bool.and_eq_false_iff Bool.not_eq_true Bool.not_eq_false Bool.not_eq_false' ne_eq implies_true forall_const Bool.cond_true_left Bool.cond_false_right not_false_eq_true not_true_eq_false Int.toNat_natCast Int.toNat_zero
attribute [local go_sem] qbuiltin qlook ments foldI mget mput keqD keyOK lookD_s lookD_n lookD_fs lookD_fn nput agop deqF deq1 nappZ cond_true cond_false Option.getD_some Option.getD_none Option.isSome_none ite_self qindex qslice qconv qextract qfield qfaddr qiaddr qload quop qiface qbuild qnil ldC ldD ob List.drop_succ_cons take_mapr drop_mapr List.drop_zero List.take_succ_cons List.take_zero List.length_cons List.length_nil List.getElem?_cons_zero List.getElem?_cons_succ Option.map_some Option.map_none List.head?_cons
attribute [local go_sem] nev isImm List.contains_cons List.contains_nil Bool.or_false Bool.or_true D.flat D.cellsOf D.isCell Bool.or_self Bool.and_self szOf nstore Store.get Store.upd putCells nk_cons not_or FZ frzE_mk frzL inL frz Store.del or_false boxCells List.headD_cons List.headD_nil List.nil_append List.append_nil List.cons_append List.drop_nil false_and and_false false_or true_or or_true Bool.false_and Bool.true_and Bool.false_or Bool.true_or Bool.and_false setPs lim_eq chunk zrep pls_eq plsF fillD resAll shop sbop bbop decide_true decide_false Bool.not_true Bool.not_false eq_self
attribute [local go_sem] tf0 tf1 tf2 tf3 tf4 tf5 tf6 tf7 tf8 tf9 tf10 tf11 tf12 tf13 tf14 tf15 tf16 tf17 tf18 tf19 tf20 tf21 tf22 tf23 tf24 tf25 tf26 tf27 tf28 tf29 tf30 tf31 tf32 tf33 tf34 tf35 tf36 tf37 tf38 tf39 tf40 tf41 tf42 tf43 tf44 tf45 tf46 tf47 tf48 tf49 tf50 tf51 tf52 tf53 tf54 tf55 tf56 tf57 tf58 tf59 tf60 tf61 tf62 tf63 tf64 tf65 tf66 tf67 tf68 tf69 tf70 tf71 tf72 tf73 tf74 tf75 tf76 tf77 tf78 tf79 tf80 tf81 tf82 tf83 tf84 tf85 tf86 tf87 tf88 tf89 tf90 tf91 tf92 tf93 tf94 tf95 tf96 tf97 tf98 tf99 tf100 tf101 tf102 tf103 tf104 tf105 tf106 tf107 tf108 tf109 tf110 tf111 tf112 tf113 tf114 tf115 tf116 tf117 tf118 tf119 tf120 tf121 tf122 tf123 tf124 tf125 tf126 tf127 tf128 tf129 tf130 tf131 tf132 tf133 tf134 tf135 tf136 tf137 tf138 tf139 tf140 tf141 tf142 tf143 tf144 tf145 tf146 tf147 tf148 tf149 tf150 tf151 tf152 tf153 tf154 tf155 tf156 tf157 tf158 tf159 tf160 tf161 tf162 tf163 tf164 tf165 tf166 tf167 tf168 tf169 tf170 tf171 tf172 tf173 tf174 tf175 tf176 tf177 tf178 tf179 tf180 tf181 tf182 tf183 tf184 tf185 tf186 tf187 tf188 tf189 tf190 tf191 tf192 tf193 tf194 tf195 tf196 tf197 tf198 tf199 tf200 tf201 tf202 tf203 tf204 tf205 tf206 tf207 tf208 tf209 tf210 tf211 tf212 tf213 tf214 tf215 tf216 tf217 tf218 tf219 tf220 tf221 tf222 tf223 tf224 tf225 tf226 tf227 tf228 tf229 tf230 tf231 tf232 tf233 tf234 tf235 tf236 tf237 tf238 tf239 tf240 tf241 tf242 tf243 tf244 tf245 tf246 tf247 tf248 tf249 tf250 tf251 tf252
attribute [local go_sem] List.length_map rowAt_n nrow rowAt_t trow rowAt_i irow
attribute [local go_sem] pl_getF pl_lookF pl_lookF' foldI
theorem law15_w (l : List Nd) (x p b : Int) : PCall Try.prog (.func 15) [.sl 5 (l.map nrow) .no, .int .i64 x, .int .i64 p, .int .i64 b] (.bool true) := by
  refine PCall.le ?_
  refine fn_ Try.func15 (by rfl) (by rfl) (rs := [.tmp 8]) (by rfl) (by simp [Try.f15]) ?_
  refine sq ?_
  refine rg [0, 1, 2, 3] [] [] (by kernel_rfl) ?_; intro κ ξ hκ hξ
  try simp (config := { decide := true }) only [go_sem, Nat.reduceMul, Nat.reduceAdd, Nat.reduceBEq, cond_false, decide_true]
  repeat with_reducible refine And.intro (by first | assumption | omega | (simp; done) | (simp; omega) | (intro hg; simp (config := { decide := true }) only [go_sem, hg]; done) | (intro hg; simp (config := { decide := true }) only [go_sem, hg]; omega)) ?_
  refine hκ _ _ ?_; clear hκ hξ ξ κ
  refine sq ?_
  refine rg [0, 1, 2, 3, 9] [] [] (by kernel_rfl) ?_; intro κ ξ hκ hξ
  try simp (config := { decide := true }) only [go_sem, Nat.reduceMul, Nat.reduceAdd, Nat.reduceBEq, cond_false, decide_true]
  repeat with_reducible refine And.intro (by first | assumption | omega | (simp; done) | (simp; omega) | (intro hg; simp (config := { decide := true }) only [go_sem, hg]; done) | (intro hg; simp (config := { decide := true }) only [go_sem, hg]; omega)) ?_
  refine callF (headN_w) ?_
  try simp (config := { decide := true }) only [go_sem, Nat.reduceMul, Nat.reduceAdd, Nat.reduceBEq, cond_false, decide_true]
  repeat with_reducible refine And.intro (by first | assumption | omega | (simp; done) | (simp; omega) | (intro hg; simp (config := { decide := true }) only [go_sem, hg]; done) | (intro hg; simp (config := { decide := true }) only [go_sem, hg]; omega)) ?_
  refine hκ _ _ ?_; clear hκ hξ ξ κ
  refine sq ?_
  refine sq ?_
  refine rg [0, 1, 2, 3, 9, 25] [] [] (by kernel_rfl) ?_; intro κ ξ hκ hξ
  try simp (config := { decide := true }) only [go_sem, Nat.reduceMul, Nat.reduceAdd, Nat.reduceBEq, cond_false, decide_true]
  repeat with_reducible refine And.intro (by first | assumption | omega | (simp; done) | (simp; omega) | (intro hg; simp (config := { decide := true }) only [go_sem, hg]; done) | (intro hg; simp (config := { decide := true }) only [go_sem, hg]; omega)) ?_
  refine callF (usaN_w _ _) ?_
  try simp (config := { decide := true }) only [go_sem, Nat.reduceMul, Nat.reduceAdd, Nat.reduceBEq, cond_false, decide_true]
  repeat with_reducible refine And.intro (by first | assumption | omega | (simp; done) | (simp; omega) | (intro hg; simp (config := { decide := true }) only [go_sem, hg]; done) | (intro hg; simp (config := { decide := true }) only [go_sem, hg]; omega)) ?_
  refine hκ _ _ ?_; clear hκ hξ ξ κ
  refine cd (by rfl) (fun c0 => ?_) (fun c0 => ?_)
  · skip
    refine sq ?_
    refine rg [8] [] [] (by kernel_rfl) ?_; intro κ ξ hκ hξ
    try simp (config := { decide := true }) only [go_sem, Nat.reduceMul, Nat.reduceAdd, Nat.reduceBEq, cond_false, decide_true, c0]
    repeat with_reducible refine And.intro (by first | assumption | omega | (simp; done) | (simp; omega) | (intro hg; simp (config := { decide := true }) only [go_sem, hg]; done) | (intro hg; simp (config := { decide := true }) only [go_sem, hg]; omega)) ?_
    refine hκ _ _ ?_; clear hκ hξ ξ κ
    refine rt ?_
    refine retE ?_
    simp (config := { decide := true }) only [go_sem, resD, resV, decide_true, c0]
    
  · obtain ⟨h60, hv⟩ := Bool.and_eq_true_iff.1 (show (decide (l.length ≤ 60) && treB l) = true by simpa using c0)
    have hl60 := of_decide_eq_true h60
    have hT := treB_true.1 hv
    have hl1 := hT.len.1
    refine sk ?_
    refine sq ?_
    refine rg [0, 1, 2, 3, 9, 10, 11] [] [] (by kernel_rfl) ?_; intro κ ξ hκ hξ
    try simp (config := { decide := true }) only [go_sem, Nat.reduceMul, Nat.reduceAdd, Nat.reduceBEq, cond_false, decide_true, c0, hv]
    repeat with_reducible refine And.intro (by first | assumption | omega | (simp; done) | (simp; omega) | (intro hg; simp (config := { decide := true }) only [go_sem, hg]; done) | (intro hg; simp (config := { decide := true }) only [go_sem, hg]; omega)) ?_
    refine callF (tmv_w _ _ _ _ _) ?_
    try simp (config := { decide := true }) only [go_sem, Nat.reduceMul, Nat.reduceAdd, Nat.reduceBEq, cond_false, decide_true, c0, hv]
    repeat with_reducible refine And.intro (by first | assumption | omega | (simp; done) | (simp; omega) | (intro hg; simp (config := { decide := true }) only [go_sem, hg]; done) | (intro hg; simp (config := { decide := true }) only [go_sem, hg]; omega)) ?_
    refine hκ _ _ ?_; clear hκ hξ ξ κ
    refine sq ?_
    refine sq ?_
    refine rg [0, 1, 2, 3, 9, 10, 36] [] [] (by kernel_rfl) ?_; intro κ ξ hκ hξ
    try simp (config := { decide := true }) only [go_sem, Nat.reduceMul, Nat.reduceAdd, Nat.reduceBEq, cond_false, decide_true, c0, hv]
    repeat with_reducible refine And.intro (by first | assumption | omega | (simp; done) | (simp; omega) | (intro hg; simp (config := { decide := true }) only [go_sem, hg]; done) | (intro hg; simp (config := { decide := true }) only [go_sem, hg]; omega)) ?_
    refine hκ _ _ ?_; clear hκ hξ ξ κ
    refine cd (by rfl) (fun c1 => ?_) (fun c1 => ?_)
    · have he : ¬ mvE l x p b = 0 := by simpa using c1
      have hL : mvL l x p b = [] := by unfold mvL; rw [if_neg he]
      refine sq ?_
      refine rg [8] [] [(1, 38)] (by kernel_rfl) ?_; intro κ ξ hκ hξ
      try simp (config := { decide := true }) only [go_sem, Nat.reduceMul, Nat.reduceAdd, Nat.reduceBEq, cond_false, decide_true, c0, hv, c1, hL, List.map_nil, List.length_nil]
      repeat with_reducible refine And.intro (by first | assumption | omega | (simp; done) | (simp; omega) | (intro hg; simp (config := { decide := true }) only [go_sem, hg]; done) | (intro hg; simp (config := { decide := true }) only [go_sem, hg]; omega)) ?_
      refine hκ _ _ ?_; clear hκ hξ ξ κ
      refine rt ?_
      refine retE ?_
      simp (config := { decide := true }) only [go_sem, resD, resV, decide_true, c0, hv, c1, hL, List.map_nil, List.length_nil]
      
    · have he : mvE l x p b = 0 := by simpa using c1
      have hok := mv_ok he
      have hvM := hok.2.2.2.2.2
      have hbp := hok.2.2.1
      have hlM := mv_len he
      have hfind := fun i hi => mv_find (i := i) he hi
      obtain ⟨A, B, hks, hB⟩ := mv_kids he
      have halk := mv_alk he
      have hL : mvL l x p b = mvR l x p b := by unfold mvL; rw [if_pos he]
      obtain ⟨M, hM⟩ : ∃ M, M = mvR l x p b := ⟨_, rfl⟩
      rw [← hM] at hvM hlM hfind hks halk hL
      clear hM
      have hTM := treB_true.1 hvM
      have hip := hok.2.1.2
      obtain ⟨r, hr1, hr, _, _⟩ := idx_nat hip
      have hrid := idx_id hip
      rw [hr1, Int.toNat_natCast] at hrid
      obtain ⟨s, hs, hsx, hsn⟩ := hfind r hr
      have hps : (nat M s).id = p := by rw [hsn]; split <;> exact hrid
      have hgp : gerr M p = 0 := by
        rw [hrid] at hsx
        exact gerr_zero.2 ⟨hvM, hbp, by omega⟩
      have hkM2 : kdL M p = kidsL M p := by unfold kdL; rw [if_pos hgp]
      obtain ⟨q, hq⟩ : ∃ q, q = A.length := ⟨_, rfl⟩
      obtain ⟨hq1, hq2, hq3, hq4⟩ := place_ok hTM hs (b := b) (by rw [hps]; exact hks) hB
      rw [hps, ← hq] at hq1 hq2 hq3 hq4
      have hkn : (kidsL M p).length ≤ M.length := kidsL_len _ _
      have hal : alkB (chA l x) (chA M x) = true := by rw [chA_F, chA_F]; exact alk_of halk
      have h0q : (0 : Int) ≤ (q : Int) := by omega
      have hqk : (q : Int) < ((kidsL M p).length : Int) := by omega
      have hn0 : ¬ ((kidsL M p).length : Int) = 0 := by omega
      have hlM3 : (M.length : Int) = (l.length : Int) := by omega
      have hlen1 : IntKind.wrap .i64 (((kidsL M p).length : Int) - 1) = (((kidsL M p).length - 1 : Nat) : Int) := by rw [w64 (by omega)]; omega
      refine sk ?_
      refine sq ?_
      refine sq ?_
      refine rg [0, 1, 2, 3, 9, 10, 52] [] [(5, 48)] (by kernel_rfl) ?_; intro κ ξ hκ hξ
      try simp (config := { decide := true }) only [go_sem, Nat.reduceMul, Nat.reduceAdd, Nat.reduceBEq, cond_false, decide_true, c0, hv, c1, he, hL, hvM, hgp, hkM2, hn0, hlM3, Int.toNat_natCast, hlen1]
      repeat with_reducible refine And.intro (by first | assumption | omega | (simp; done) | (simp; omega) | (intro hg; simp (config := { decide := true }) only [go_sem, hg]; done) | (intro hg; simp (config := { decide := true }) only [go_sem, hg]; omega)) ?_
      refine vo_gc ?_; simp (config := { decide := true }) only [go_sem, decide_true, c0, hv, c1, he, hL, hvM, hgp, hkM2, hn0, hlM3, Int.toNat_natCast, hlen1]; refine gcallF (fun hg => ⟨by first | rfl | (simp (config := { decide := true }) only [go_sem, hg, decide_true, c0, hv, c1, he, hL, hvM, hgp, hkM2, hn0, hlM3, Int.toNat_natCast, hlen1]; done) | exact hg | simpa using hg, tre_w _ _⟩) ?_
      try simp (config := { decide := true }) only [go_sem, Nat.reduceMul, Nat.reduceAdd, Nat.reduceBEq, cond_false, decide_true, c0, hv, c1, he, hL, hvM, hgp, hkM2, hn0, hlM3, Int.toNat_natCast, hlen1]
      repeat with_reducible refine And.intro (by first | assumption | omega | (simp; done) | (simp; omega) | (intro hg; simp (config := { decide := true }) only [go_sem, hg]; done) | (intro hg; simp (config := { decide := true }) only [go_sem, hg]; omega)) ?_
      refine hκ _ _ ?_; clear hκ hξ ξ κ
      refine cd (by rfl) (fun c2 => ?_) (fun c2 => ?_)
      · exfalso; revert c2; simp
      · skip
        refine sk ?_
        refine sq ?_
        refine sq ?_
        refine rg [0, 1, 2, 3, 9, 10, 53, 54, 55] [] [] (by kernel_rfl) ?_; intro κ ξ hκ hξ
        try simp (config := { decide := true }) only [go_sem, Nat.reduceMul, Nat.reduceAdd, Nat.reduceBEq, cond_false, decide_true, c0, hv, c1, he, hL, hvM, hgp, hkM2, hn0, hlM3, Int.toNat_natCast, hlen1, c2]
        repeat with_reducible refine And.intro (by first | assumption | omega | (simp; done) | (simp; omega) | (intro hg; simp (config := { decide := true }) only [go_sem, hg]; done) | (intro hg; simp (config := { decide := true }) only [go_sem, hg]; omega)) ?_
        refine hκ _ _ ?_; clear hκ hξ ξ κ
        refine bl ?_
        refine lp (α := Nat) (fun i => mk [(0, .sl 5 (l.map nrow) .no), (1, .int .i64 x), (2, .int .i64 p), (3, .int .i64 b), (9, .bool true), (10, .sl 5 (M.map nrow) .no), (53, .sl 5 (l.map nrow) .no), (54, .int .i64 l.length), (55, .int .i64 i)]) (fun _ => []) (fun i => i ≤ l.length) (fun i => l.length - i) 0 ⟨by omega, EnvLe.of_eq rfl, .refl _⟩ ?_
        intro i hi
        refine sq ?_
        refine rg [0, 1, 2, 3, 9, 10, 53, 54, 55, 56] [] [] (by kernel_rfl) ?_; intro κ ξ hκ hξ
        try simp (config := { decide := true }) only [go_sem, Nat.reduceMul, Nat.reduceAdd, Nat.reduceBEq, cond_false, decide_true, c0, hv, c1, he, hL, hvM, hgp, hkM2, hn0, hlM3, Int.toNat_natCast, hlen1, c2]
        repeat with_reducible refine And.intro (by first | assumption | omega | (simp; done) | (simp; omega) | (intro hg; simp (config := { decide := true }) only [go_sem, hg]; done) | (intro hg; simp (config := { decide := true }) only [go_sem, hg]; omega)) ?_
        refine hκ _ _ ?_; clear hκ hξ ξ κ
        refine sq ?_
        refine cd (by rfl) (fun c3 => ?_) (fun c3 => ?_)
        · simp only [go_sem] at c3
          have hil : i < l.length := by omega
          obtain ⟨u, hu, hux, hun⟩ := hfind i hil
          have hib : idB (nat l i).id = true := by
            have hf := fm_id (hT.form i hil)
            simp [idB]; omega
          have huf : fi M (nat l i).id = (u : Int) := by unfold fi; rw [hux, if_pos (by omega)]
          have hu0 : (0 : Int) ≤ (u : Int) := by omega
          have hu3 : (u : Int) < (M.length : Int) := by omega
          have hu4 : ¬ (u : Int) < 0 := by omega
          have hu5 : ¬ (l.length : Int) ≤ (u : Int) := by omega
          have hu6 : (u : Int) < (l.length : Int) := by omega
          refine sk ?_
          refine sq ?_
          refine bl ?_
          refine sq ?_
          refine rg [0, 1, 2, 3, 9, 10, 13, 53, 54, 55] [] [] (by kernel_rfl) ?_; intro κ ξ hκ hξ
          try simp (config := { decide := true }) only [go_sem, Nat.reduceMul, Nat.reduceAdd, Nat.reduceBEq, cond_false, decide_true, c0, hv, c1, he, hL, hvM, hgp, hkM2, hn0, hlM3, Int.toNat_natCast, hlen1, c2, c3, hib, hux, huf, hu0, hu3, hu4, hu5, hu6]
          repeat with_reducible refine And.intro (by first | assumption | omega | (simp; done) | (simp; omega) | (intro hg; simp (config := { decide := true }) only [go_sem, hg]; done) | (intro hg; simp (config := { decide := true }) only [go_sem, hg]; omega)) ?_
          intro b13 hb13
          try simp (config := { decide := true }) only [go_sem, Nat.reduceMul, Nat.reduceAdd, Nat.reduceBEq, cond_false, decide_true, c0, hv, c1, he, hL, hvM, hgp, hkM2, hn0, hlM3, Int.toNat_natCast, hlen1, c2, c3, hib, hux, huf, hu0, hu3, hu4, hu5, hu6, hb13]
          repeat with_reducible refine And.intro (by first | assumption | omega | (simp; done) | (simp; omega) | (intro hg; simp (config := { decide := true }) only [go_sem, hg]; done) | (intro hg; simp (config := { decide := true }) only [go_sem, hg]; omega)) ?_
          refine hκ _ _ ?_; clear hκ hξ ξ κ
          refine sq ?_
          refine rg [0, 1, 2, 3, 9, 10, 13, 14, 15, 16, 53, 54, 55] [] [] (by kernel_rfl) ?_; intro κ ξ hκ hξ
          try simp (config := { decide := true }) only [go_sem, Nat.reduceMul, Nat.reduceAdd, Nat.reduceBEq, cond_false, decide_true, c0, hv, c1, he, hL, hvM, hgp, hkM2, hn0, hlM3, Int.toNat_natCast, hlen1, c2, c3, hib, hux, huf, hu0, hu3, hu4, hu5, hu6, hb13]
          repeat with_reducible refine And.intro (by first | assumption | omega | (simp; done) | (simp; omega) | (intro hg; simp (config := { decide := true }) only [go_sem, hg]; done) | (intro hg; simp (config := { decide := true }) only [go_sem, hg]; omega)) ?_
          refine callF (find_w _ _ _) ?_
          try simp (config := { decide := true }) only [go_sem, Nat.reduceMul, Nat.reduceAdd, Nat.reduceBEq, cond_false, decide_true, c0, hv, c1, he, hL, hvM, hgp, hkM2, hn0, hlM3, Int.toNat_natCast, hlen1, c2, c3, hib, hux, huf, hu0, hu3, hu4, hu5, hu6, hb13]
          repeat with_reducible refine And.intro (by first | assumption | omega | (simp; done) | (simp; omega) | (intro hg; simp (config := { decide := true }) only [go_sem, hg]; done) | (intro hg; simp (config := { decide := true }) only [go_sem, hg]; omega)) ?_
          refine hκ _ _ ?_; clear hκ hξ ξ κ
          refine sq ?_
          refine sq ?_
          refine rg [0, 1, 2, 3, 9, 10, 13, 14, 53, 54, 55, 82] [] [(2, 69), (6, 73), (10, 77)] (by kernel_rfl) ?_; intro κ ξ hκ hξ
          try simp (config := { decide := true }) only [go_sem, Nat.reduceMul, Nat.reduceAdd, Nat.reduceBEq, cond_false, decide_true, c0, hv, c1, he, hL, hvM, hgp, hkM2, hn0, hlM3, Int.toNat_natCast, hlen1, c2, c3, hib, hux, huf, hu0, hu3, hu4, hu5, hu6, hb13]
          repeat with_reducible refine And.intro (by first | assumption | omega | (simp; done) | (simp; omega) | (intro hg; simp (config := { decide := true }) only [go_sem, hg]; done) | (intro hg; simp (config := { decide := true }) only [go_sem, hg]; omega)) ?_
          refine hκ _ _ ?_; clear hκ hξ ξ κ
          refine cd (by rfl) (fun c4 => ?_) (fun c4 => ?_)
          · exfalso; revert c4; simp
          · skip
            refine sk ?_
            refine sq ?_
            refine sq ?_
            refine rg [0, 1, 2, 3, 9, 10, 13, 14, 53, 54, 55, 86] [] [] (by kernel_rfl) ?_; intro κ ξ hκ hξ
            try simp (config := { decide := true }) only [go_sem, Nat.reduceMul, Nat.reduceAdd, Nat.reduceBEq, cond_false, decide_true, c0, hv, c1, he, hL, hvM, hgp, hkM2, hn0, hlM3, Int.toNat_natCast, hlen1, c2, c3, hib, hux, huf, hu0, hu3, hu4, hu5, hu6, hb13, c4]
            repeat with_reducible refine And.intro (by first | assumption | omega | (simp; done) | (simp; omega) | (intro hg; simp (config := { decide := true }) only [go_sem, hg]; done) | (intro hg; simp (config := { decide := true }) only [go_sem, hg]; omega)) ?_
            refine hκ _ _ ?_; clear hκ hξ ξ κ
            refine cd (by rfl) (fun c5 => ?_) (fun c5 => ?_)
            · have c5 : (nat l i).id = x := by simpa using c5
              have hf1 : (nat M u).id = (nat l i).id := by rw [hun]; split <;> rfl
              have hf2 : (nat M u).par = p := by rw [hun, if_pos c5]
              have hf3 : (nat M u).kind = (nat l i).kind := by rw [hun]; split <;> rfl
              have hf4 : (nat M u).cls = (nat l i).cls := by rw [hun]; split <;> rfl
              have hf5 : (nat M u).txt = (nat l i).txt := by rw [hun]; split <;> rfl
              refine rg [0, 1, 2, 3, 9, 10, 13, 14, 53, 54, 55] [] [] (by kernel_rfl) ?_; intro κ ξ hκ hξ
              try simp (config := { decide := true }) only [go_sem, Nat.reduceMul, Nat.reduceAdd, Nat.reduceBEq, cond_false, decide_true, c0, hv, c1, he, hL, hvM, hgp, hkM2, hn0, hlM3, Int.toNat_natCast, hlen1, c2, c3, hib, hux, huf, hu0, hu3, hu4, hu5, hu6, hb13, c4, c5, hf1, hf2, hf3, hf4, hf5]
              repeat with_reducible refine And.intro (by first | assumption | omega | (simp; done) | (simp; omega) | (intro hg; simp (config := { decide := true }) only [go_sem, hg]; done) | (intro hg; simp (config := { decide := true }) only [go_sem, hg]; omega)) ?_
              refine hκ _ _ ?_; clear hκ hξ ξ κ
              refine rgd [0, 1, 2, 3, 9, 10, 53, 54, 55] [] [] [(1, 90)] (by kernel_rfl) (by kernel_rfl) ?_; intro κ ξ hκ hξ
              try simp (config := { decide := true }) only [go_sem, Nat.reduceMul, Nat.reduceAdd, Nat.reduceBEq, cond_false, decide_true, c0, hv, c1, he, hL, hvM, hgp, hkM2, hn0, hlM3, Int.toNat_natCast, hlen1, c2, c3, hib, hux, huf, hu0, hu3, hu4, hu5, hu6, hb13, c4, c5, hf1, hf2, hf3, hf4, hf5]
              repeat with_reducible refine And.intro (by first | assumption | omega | (simp; done) | (simp; omega) | (intro hg; simp (config := { decide := true }) only [go_sem, hg]; done) | (intro hg; simp (config := { decide := true }) only [go_sem, hg]; omega)) ?_
              refine hκ _ _ ?_; clear hκ hξ ξ κ
              refine rg [0, 1, 2, 3, 9, 10, 53, 54, 55] [] [] (by kernel_rfl) ?_; intro κ ξ hκ hξ
              try simp (config := { decide := true }) only [go_sem, Nat.reduceMul, Nat.reduceAdd, Nat.reduceBEq, cond_false, decide_true, c0, hv, c1, he, hL, hvM, hgp, hkM2, hn0, hlM3, Int.toNat_natCast, hlen1, c2, c3, hib, hux, huf, hu0, hu3, hu4, hu5, hu6, hb13, c4, c5, hf1, hf2, hf3, hf4, hf5]
              repeat with_reducible refine And.intro (by first | assumption | omega | (simp; done) | (simp; omega) | (intro hg; simp (config := { decide := true }) only [go_sem, hg]; done) | (intro hg; simp (config := { decide := true }) only [go_sem, hg]; omega)) ?_
              refine hκ _ _ ?_; clear hκ hξ ξ κ
              refine ⟨i + 1, ⟨by omega, by omega⟩, EnvLe.of_eq (by rw [w64 (by omega)]; rfl), List.nil_sublist _⟩
            · have c5 : ¬ (nat l i).id = x := by simpa using c5
              have hf1 : (nat M u).id = (nat l i).id := by rw [hun]; split <;> rfl
              have hf2 : (nat M u).par = (nat l i).par := by rw [hun, if_neg c5]
              have hf3 : (nat M u).kind = (nat l i).kind := by rw [hun]; split <;> rfl
              have hf4 : (nat M u).cls = (nat l i).cls := by rw [hun]; split <;> rfl
              have hf5 : (nat M u).txt = (nat l i).txt := by rw [hun]; split <;> rfl
              refine sk ?_
              refine rgd [0, 1, 2, 3, 9, 10, 53, 54, 55] [] [] [(1, 90)] (by kernel_rfl) (by kernel_rfl) ?_; intro κ ξ hκ hξ
              try simp (config := { decide := true }) only [go_sem, Nat.reduceMul, Nat.reduceAdd, Nat.reduceBEq, cond_false, decide_true, c0, hv, c1, he, hL, hvM, hgp, hkM2, hn0, hlM3, Int.toNat_natCast, hlen1, c2, c3, hib, hux, huf, hu0, hu3, hu4, hu5, hu6, hb13, c4, c5, hf1, hf2, hf3, hf4, hf5]
              repeat with_reducible refine And.intro (by first | assumption | omega | (simp; done) | (simp; omega) | (intro hg; simp (config := { decide := true }) only [go_sem, hg]; done) | (intro hg; simp (config := { decide := true }) only [go_sem, hg]; omega)) ?_
              refine hκ _ _ ?_; clear hκ hξ ξ κ
              refine rg [0, 1, 2, 3, 9, 10, 53, 54, 55] [] [] (by kernel_rfl) ?_; intro κ ξ hκ hξ
              try simp (config := { decide := true }) only [go_sem, Nat.reduceMul, Nat.reduceAdd, Nat.reduceBEq, cond_false, decide_true, c0, hv, c1, he, hL, hvM, hgp, hkM2, hn0, hlM3, Int.toNat_natCast, hlen1, c2, c3, hib, hux, huf, hu0, hu3, hu4, hu5, hu6, hb13, c4, c5, hf1, hf2, hf3, hf4, hf5]
              repeat with_reducible refine And.intro (by first | assumption | omega | (simp; done) | (simp; omega) | (intro hg; simp (config := { decide := true }) only [go_sem, hg]; done) | (intro hg; simp (config := { decide := true }) only [go_sem, hg]; omega)) ?_
              refine hκ _ _ ?_; clear hκ hξ ξ κ
              refine ⟨i + 1, ⟨by omega, by omega⟩, EnvLe.of_eq (by rw [w64 (by omega)]; rfl), List.nil_sublist _⟩
        · simp only [go_sem] at c3
          refine ex ?_
          refine sq ?_
          refine rg [0, 1, 3, 9, 10, 17, 18] [] [] (by kernel_rfl) ?_; intro κ ξ hκ hξ
          try simp (config := { decide := true }) only [go_sem, Nat.reduceMul, Nat.reduceAdd, Nat.reduceBEq, cond_false, decide_true, c0, hv, c1, he, hL, hvM, hgp, hkM2, hn0, hlM3, Int.toNat_natCast, hlen1, c2, c3]
          repeat with_reducible refine And.intro (by first | assumption | omega | (simp; done) | (simp; omega) | (intro hg; simp (config := { decide := true }) only [go_sem, hg]; done) | (intro hg; simp (config := { decide := true }) only [go_sem, hg]; omega)) ?_
          refine callF (kids2_w _ _ _ (by omega)) ?_
          try simp (config := { decide := true }) only [go_sem, Nat.reduceMul, Nat.reduceAdd, Nat.reduceBEq, cond_false, decide_true, c0, hv, c1, he, hL, hvM, hgp, hkM2, hn0, hlM3, Int.toNat_natCast, hlen1, c2, c3]
          repeat with_reducible refine And.intro (by first | assumption | omega | (simp; done) | (simp; omega) | (intro hg; simp (config := { decide := true }) only [go_sem, hg]; done) | (intro hg; simp (config := { decide := true }) only [go_sem, hg]; omega)) ?_
          refine hκ _ _ ?_; clear hκ hξ ξ κ
          refine sq ?_
          refine sq ?_
          refine rg [0, 1, 3, 9, 10, 17, 111] [] [(2, 107)] (by kernel_rfl) ?_; intro κ ξ hκ hξ
          try simp (config := { decide := true }) only [go_sem, Nat.reduceMul, Nat.reduceAdd, Nat.reduceBEq, cond_false, decide_true, c0, hv, c1, he, hL, hvM, hgp, hkM2, hn0, hlM3, Int.toNat_natCast, hlen1, c2, c3]
          repeat with_reducible refine And.intro (by first | assumption | omega | (simp; done) | (simp; omega) | (intro hg; simp (config := { decide := true }) only [go_sem, hg]; done) | (intro hg; simp (config := { decide := true }) only [go_sem, hg]; omega)) ?_
          refine hκ _ _ ?_; clear hκ hξ ξ κ
          refine cd (by rfl) (fun c6 => ?_) (fun c6 => ?_)
          · exfalso; revert c6; simp
          · skip
            refine sk ?_
            refine sq ?_
            refine rg [0, 1, 3, 9, 10, 17, 19] [] [] (by kernel_rfl) ?_; intro κ ξ hκ hξ
            try simp (config := { decide := true }) only [go_sem, Nat.reduceMul, Nat.reduceAdd, Nat.reduceBEq, cond_false, decide_true, c0, hv, c1, he, hL, hvM, hgp, hkM2, hn0, hlM3, Int.toNat_natCast, hlen1, c2, c3, c6]
            repeat with_reducible refine And.intro (by first | assumption | omega | (simp; done) | (simp; omega) | (intro hg; simp (config := { decide := true }) only [go_sem, hg]; done) | (intro hg; simp (config := { decide := true }) only [go_sem, hg]; omega)) ?_
            refine hκ _ _ ?_; clear hκ hξ ξ κ
            refine sq ?_
            refine sq ?_
            refine rg [0, 1, 3, 9, 10, 17, 19, 115, 116, 117] [] [] (by kernel_rfl) ?_; intro κ ξ hκ hξ
            try simp (config := { decide := true }) only [go_sem, Nat.reduceMul, Nat.reduceAdd, Nat.reduceBEq, cond_false, decide_true, c0, hv, c1, he, hL, hvM, hgp, hkM2, hn0, hlM3, Int.toNat_natCast, hlen1, c2, c3, c6]
            repeat with_reducible refine And.intro (by first | assumption | omega | (simp; done) | (simp; omega) | (intro hg; simp (config := { decide := true }) only [go_sem, hg]; done) | (intro hg; simp (config := { decide := true }) only [go_sem, hg]; omega)) ?_
            refine hκ _ _ ?_; clear hκ hξ ξ κ
            refine bl ?_
            refine lp (α := Nat) (fun j => mk [(0, .sl 5 (l.map nrow) .no), (1, .int .i64 x), (3, .int .i64 b), (9, .bool true), (10, .sl 5 (M.map nrow) .no), (17, .sl 1 ((kidsL M p).map irow) .no), (19, .int .i64 ((if q + 1 < j then q else (kidsL M p).length - 1 : Nat) : Int)), (115, .sl 1 ((kidsL M p).map irow) .no), (116, .int .i64 (kidsL M p).length), (117, .int .i64 j)]) (fun _ => []) (fun j => j ≤ (kidsL M p).length) (fun j => (kidsL M p).length - j) 0 ⟨by omega, EnvLe.of_eq (by rw [if_neg (by omega)]; rfl), .refl _⟩ ?_
            intro j hj
            refine sq ?_
            refine rg [0, 1, 3, 9, 10, 17, 19, 115, 116, 117, 118] [] [] (by kernel_rfl) ?_; intro κ ξ hκ hξ
            try simp (config := { decide := true }) only [go_sem, Nat.reduceMul, Nat.reduceAdd, Nat.reduceBEq, cond_false, decide_true, c0, hv, c1, he, hL, hvM, hgp, hkM2, hn0, hlM3, Int.toNat_natCast, hlen1, c2, c3, c6]
            repeat with_reducible refine And.intro (by first | assumption | omega | (simp; done) | (simp; omega) | (intro hg; simp (config := { decide := true }) only [go_sem, hg]; done) | (intro hg; simp (config := { decide := true }) only [go_sem, hg]; omega)) ?_
            refine hκ _ _ ?_; clear hκ hξ ξ κ
            refine sq ?_
            refine cd (by rfl) (fun c7 => ?_) (fun c7 => ?_)
            · simp only [go_sem] at c7
              have hjk : (j : Int) < ((kidsL M p).length : Int) := by omega
              refine sk ?_
              refine sq ?_
              refine bl ?_
              refine sq ?_
              refine rg [0, 1, 3, 9, 10, 17, 19, 20, 21, 115, 116, 117] [] [] (by kernel_rfl) ?_; intro κ ξ hκ hξ
              try simp (config := { decide := true }) only [go_sem, Nat.reduceMul, Nat.reduceAdd, Nat.reduceBEq, cond_false, decide_true, c0, hv, c1, he, hL, hvM, hgp, hkM2, hn0, hlM3, Int.toNat_natCast, hlen1, c2, c3, c6, c7, hjk]
              repeat with_reducible refine And.intro (by first | assumption | omega | (simp; done) | (simp; omega) | (intro hg; simp (config := { decide := true }) only [go_sem, hg]; done) | (intro hg; simp (config := { decide := true }) only [go_sem, hg]; omega)) ?_
              refine hκ _ _ ?_; clear hκ hξ ξ κ
              refine sq ?_
              refine rg [0, 1, 3, 9, 10, 17, 19, 20, 115, 116, 117, 124] [] [] (by kernel_rfl) ?_; intro κ ξ hκ hξ
              try simp (config := { decide := true }) only [go_sem, Nat.reduceMul, Nat.reduceAdd, Nat.reduceBEq, cond_false, decide_true, c0, hv, c1, he, hL, hvM, hgp, hkM2, hn0, hlM3, Int.toNat_natCast, hlen1, c2, c3, c6, c7, hjk]
              repeat with_reducible refine And.intro (by first | assumption | omega | (simp; done) | (simp; omega) | (intro hg; simp (config := { decide := true }) only [go_sem, hg]; done) | (intro hg; simp (config := { decide := true }) only [go_sem, hg]; omega)) ?_
              refine hκ _ _ ?_; clear hκ hξ ξ κ
              refine cd (by rfl) (fun c8 => ?_) (fun c8 => ?_)
              · have c8 : iat (kidsL M p) j = b := by simpa using c8
                have hjq := hq3 j (by omega) c8
                refine rg [0, 1, 3, 9, 10, 17, 19, 115, 116, 117] [] [] (by kernel_rfl) ?_; intro κ ξ hκ hξ
                try simp (config := { decide := true }) only [go_sem, Nat.reduceMul, Nat.reduceAdd, Nat.reduceBEq, cond_false, decide_true, c0, hv, c1, he, hL, hvM, hgp, hkM2, hn0, hlM3, Int.toNat_natCast, hlen1, c2, c3, c6, c7, hjk, c8]
                repeat with_reducible refine And.intro (by first | assumption | omega | (simp; done) | (simp; omega) | (intro hg; simp (config := { decide := true }) only [go_sem, hg]; done) | (intro hg; simp (config := { decide := true }) only [go_sem, hg]; omega)) ?_
                refine hκ _ _ ?_; clear hκ hξ ξ κ
                refine rg [0, 1, 3, 9, 10, 17, 19, 115, 116, 117] [] [] (by kernel_rfl) ?_; intro κ ξ hκ hξ
                try simp (config := { decide := true }) only [go_sem, Nat.reduceMul, Nat.reduceAdd, Nat.reduceBEq, cond_false, decide_true, c0, hv, c1, he, hL, hvM, hgp, hkM2, hn0, hlM3, Int.toNat_natCast, hlen1, c2, c3, c6, c7, hjk, c8]
                repeat with_reducible refine And.intro (by first | assumption | omega | (simp; done) | (simp; omega) | (intro hg; simp (config := { decide := true }) only [go_sem, hg]; done) | (intro hg; simp (config := { decide := true }) only [go_sem, hg]; omega)) ?_
                refine hκ _ _ ?_; clear hκ hξ ξ κ
                refine ⟨j + 1, ⟨by omega, by omega⟩, EnvLe.of_eq ?_, .refl _⟩
                rw [w64 (n := (j : Int) + 1) (by omega), w64 (by omega), if_pos (by omega), show ((j : Int) - 1) = ((q : Nat) : Int) by omega]; rfl
              · have c8 : ¬ iat (kidsL M p) j = b := by simpa using c8
                refine sk ?_
                refine rg [0, 1, 3, 9, 10, 17, 19, 115, 116, 117] [] [] (by kernel_rfl) ?_; intro κ ξ hκ hξ
                try simp (config := { decide := true }) only [go_sem, Nat.reduceMul, Nat.reduceAdd, Nat.reduceBEq, cond_false, decide_true, c0, hv, c1, he, hL, hvM, hgp, hkM2, hn0, hlM3, Int.toNat_natCast, hlen1, c2, c3, c6, c7, hjk, c8]
                repeat with_reducible refine And.intro (by first | assumption | omega | (simp; done) | (simp; omega) | (intro hg; simp (config := { decide := true }) only [go_sem, hg]; done) | (intro hg; simp (config := { decide := true }) only [go_sem, hg]; omega)) ?_
                refine hκ _ _ ?_; clear hκ hξ ξ κ
                refine ⟨j + 1, ⟨by omega, by omega⟩, EnvLe.of_eq ?_, .refl _⟩
                have e : (if q + 1 < j + 1 then q else (kidsL M p).length - 1) = (if q + 1 < j then q else (kidsL M p).length - 1) := by
                  by_cases h : q + 1 = j
                  · exfalso
                    rcases hq4 with h4 | h4
                    · exact c8 (by rw [← h]; exact h4.2)
                    · omega
                  · by_cases h2 : q + 1 < j
                    · rw [if_pos h2, if_pos (by omega)]
                    · rw [if_neg h2, if_neg (by omega)]
                rw [w64 (by omega), e]; rfl
            · simp only [go_sem] at c7
              obtain rfl : j = (kidsL M p).length := by omega
              have hpl : (if q + 1 < (kidsL M p).length then q else (kidsL M p).length - 1) = q := by
                rcases hq4 with h | h
                · rw [if_pos h.1]
                · rw [if_neg (by omega)]; omega
              refine ex ?_
              refine sq ?_
              refine rg [8] [] [(1, 129), (5, 133), (13, 141)] (by kernel_rfl) ?_; intro κ ξ hκ hξ
              try simp (config := { decide := true }) only [go_sem, Nat.reduceMul, Nat.reduceAdd, Nat.reduceBEq, cond_false, decide_true, c0, hv, c1, he, hL, hvM, hgp, hkM2, hn0, hlM3, Int.toNat_natCast, hlen1, c2, c3, c6, c7, hpl, hq1, h0q, hqk, hal]
              repeat with_reducible refine And.intro (by first | assumption | omega | (simp; done) | (simp; omega) | (intro hg; simp (config := { decide := true }) only [go_sem, hg]; done) | (intro hg; simp (config := { decide := true }) only [go_sem, hg]; omega)) ?_
              refine vo_gc ?_; simp (config := { decide := true }) only [go_sem, decide_true, c0, hv, c1, he, hL, hvM, hgp, hkM2, hn0, hlM3, Int.toNat_natCast, hlen1, c2, c3, c6, c7, hpl, hq1, h0q, hqk, hal]; refine gcallF (fun hg => ⟨by first | rfl | (simp (config := { decide := true }) only [go_sem, hg, decide_true, c0, hv, c1, he, hL, hvM, hgp, hkM2, hn0, hlM3, Int.toNat_natCast, hlen1, c2, c3, c6, c7, hpl, hq1, h0q, hqk, hal]; done) | exact hg | simpa using hg, alk_w _ _ _ _ _ (by omega) (by omega)⟩) ?_
              try simp (config := { decide := true }) only [go_sem, Nat.reduceMul, Nat.reduceAdd, Nat.reduceBEq, cond_false, decide_true, c0, hv, c1, he, hL, hvM, hgp, hkM2, hn0, hlM3, Int.toNat_natCast, hlen1, c2, c3, c6, c7, hpl, hq1, h0q, hqk, hal]
              repeat with_reducible refine And.intro (by first | assumption | omega | (simp; done) | (simp; omega) | (intro hg; simp (config := { decide := true }) only [go_sem, hg]; done) | (intro hg; simp (config := { decide := true }) only [go_sem, hg]; omega)) ?_
              refine hκ _ _ ?_; clear hκ hξ ξ κ
              refine rt ?_
              refine retE ?_
              simp (config := { decide := true }) only [go_sem, resD, resV, decide_true, c0, hv, c1, he, hL, hvM, hgp, hkM2, hn0, hlM3, Int.toNat_natCast, hlen1, c2, c3, c6, c7, hpl, hq1, h0q, hqk, hal]
              

end Go.Proofs.Ytgccnkihonmlbaa

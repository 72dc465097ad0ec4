/- The walk of the law TreeInserts. Printed by a tool of our own. -/
import Derived.Test.YtgccnkihonmlbaaUy
import Derived.Test.YtgccnkihonmlbaaUz
namespace Go.Proofs.Ytgccnkihonmlbaa
open Go Go.RowKit
set_option linter.unusedSimpArgs false
set_option linter.unusedVariables false
set_option maxHeartbeats 4000000
set_option maxRecDepth 100000
attribute [local go_sem ↓] vo_nil vK_eq vo_q vo_g vo_n vo_c vd_nil dK_eq eK_eq vd_q vd_g vd_n vd_st vd_c cgs_call cgs_builtin
attribute [local go_sem] Ext_refl Ext_cons
attribute [local go_sem] quiet_move quiet_assign quiet_pick quiet_binOp quiet_unOp quiet_convert quiet_field quiet_fieldAddr quiet_indexAddr quiet_index quiet_load quiet_lookup quiet_extract quiet_build quiet_makeInterface quiet_makeFunc quiet_slice quiet_nilCheck quiet_alloc isCall_alloc quiet_box isCall_box quiet_buildSlice isCall_buildSlice quiet_store isCall_store quiet_range isCall_range quiet_next isCall_next quiet_makeSlice isCall_makeSlice quiet_panic isCall_panic quiet_len quiet_cap quiet_min quiet_max quiet_append isCall_append quiet_copy isCall_copy quiet_delete isCall_delete nqk_alloc nqk_box nqk_buildSlice nqk_range nqk_next nqk_makeSlice nqk_panic nqk_makeMap nqk_entry nqk_append nqk_copy nqk_delete isSt_alloc isSt_box isSt_buildSlice isSt_range isSt_next isSt_makeSlice isSt_panic isSt_makeMap isSt_entry isSt_store isSt_mapUpdate isSt_insert isSt_append isSt_copy isSt_delete quiet_makeMap isCall_makeMap quiet_mapUpdate isCall_mapUpdate quiet_insert isCall_insert
attribute [local go_sem] argEnv qev opd put_some put_none set_at mk_cons mk_nil prune_eq D.ofV ofC_int ofC_nil ofC_str ofC_nilmap ofC_nilfunc ofC_nilptr true_and ofC_bool bop isSh ibop Bool.false_eq_true if_false if_true and_self D.core D.cg qpick isB bof gval look Option.bind_some opc cgs Op.operands List.all_cons List.all_nil Bool.and_true and_true true_imp_iff imp_self false_imp_iff beq_true beq_false beq_iff_eq decide_eq_true_eq List.map_cons List.map_nil Bool.not_eq_true' decide_eq_false_iff_not gof gq gev cond_some Option.isSome_some Bool.or_eq_true Bool.and_eq_true Bool.or_eq_false_iff Bool.and_eq_false_iff Bool.not_eq_true Bool.not_eq_false Bool.not_eq_false' ne_eq implies_true forall_const Bool.cond_true_left Bool.cond_false_right not_false_eq_true not_true_eq_false Int.toNat_natCast Int.toNat_zero
attribute [local go_sem] qbuiltin qlook ments foldI mget mput keqD keyOK lookD_s lookD_n lookD_fs lookD_fn nput agop deqF deq1 nappZ cond_true cond_false Option.getD_some Option.getD_none Option.isSome_none ite_self qindex qslice qconv qextract qfield qfaddr qiaddr qload quop qiface qbuild qnil ldC ldD ob List.drop_succ_cons take_mapr drop_mapr List.drop_zero List.take_succ_cons List.take_zero List.length_cons List.length_nil List.getElem?_cons_zero List.getElem?_cons_succ Option.map_some Option.map_none List.head?_cons
attribute [local go_sem] nev isImm List.contains_cons List.contains_nil Bool.or_false Bool.or_true D.flat D.cellsOf D.isCell Bool.or_self Bool.and_self szOf nstore Store.get Store.upd putCells nk_cons not_or FZ frzE_mk frzL inL frz Store.del or_false boxCells List.headD_cons List.headD_nil List.nil_append List.append_nil List.cons_append List.drop_nil false_and and_false false_or true_or or_true Bool.false_and Bool.true_and Bool.false_or Bool.true_or Bool.and_false setPs lim_eq chunk zrep pls_eq plsF fillD resAll shop sbop bbop decide_true decide_false Bool.not_true Bool.not_false eq_self
attribute [local go_sem] tf0 tf1 tf2 tf3 tf4 tf5 tf6 tf7 tf8 tf9 tf10 tf11 tf12 tf13 tf14 tf15 tf16 tf17 tf18 tf19 tf20 tf21 tf22 tf23 tf24 tf25 tf26 tf27 tf28 tf29 tf30 tf31 tf32 tf33 tf34 tf35 tf36 tf37 tf38 tf39 tf40 tf41 tf42 tf43 tf44 tf45 tf46 tf47 tf48 tf49 tf50 tf51 tf52 tf53 tf54 tf55 tf56 tf57 tf58 tf59 tf60 tf61 tf62 tf63 tf64 tf65 tf66 tf67 tf68 tf69 tf70 tf71 tf72 tf73 tf74 tf75 tf76 tf77 tf78 tf79 tf80 tf81 tf82 tf83 tf84 tf85 tf86 tf87 tf88 tf89 tf90 tf91 tf92 tf93 tf94 tf95 tf96 tf97 tf98 tf99 tf100 tf101 tf102 tf103 tf104 tf105 tf106 tf107 tf108 tf109 tf110 tf111 tf112 tf113 tf114 tf115 tf116 tf117 tf118 tf119 tf120 tf121 tf122 tf123 tf124 tf125 tf126 tf127 tf128 tf129 tf130 tf131 tf132 tf133 tf134 tf135 tf136 tf137 tf138 tf139 tf140 tf141 tf142 tf143 tf144 tf145 tf146 tf147 tf148 tf149 tf150 tf151 tf152 tf153 tf154 tf155 tf156 tf157 tf158 tf159 tf160 tf161 tf162 tf163 tf164 tf165 tf166 tf167 tf168 tf169 tf170 tf171 tf172 tf173 tf174 tf175 tf176 tf177 tf178 tf179 tf180 tf181 tf182 tf183 tf184 tf185 tf186 tf187 tf188 tf189 tf190 tf191 tf192 tf193 tf194 tf195 tf196 tf197 tf198 tf199 tf200 tf201 tf202 tf203 tf204 tf205 tf206 tf207 tf208 tf209 tf210 tf211 tf212 tf213 tf214 tf215 tf216 tf217 tf218 tf219 tf220 tf221 tf222 tf223 tf224 tf225 tf226 tf227 tf228 tf229 tf230 tf231 tf232 tf233 tf234 tf235 tf236 tf237 tf238 tf239 tf240 tf241 tf242 tf243 tf244 tf245 tf246 tf247 tf248 tf249 tf250 tf251 tf252
attribute [local go_sem] List.length_map rowAt_n nrow rowAt_t trow rowAt_i irow
attribute [local go_sem] pl_getF pl_lookF pl_lookF' foldI
theorem law13_w (l : List Nd) (n : Nd) (b : Int) : PCall Try.prog (.func 13) [.sl 5 (l.map nrow) .no, .ag (nrow n), .int .i64 b] (.bool true) := by
  refine PCall.le ?_
  refine fn_ Try.func13 (by rfl) (by rfl) (rs := [.tmp 6]) (by rfl) (by simp [Try.f13]) ?_
  refine sq ?_
  refine rg [0, 2, 4] [4] [] (by kernel_rfl) ?_; intro κ ξ hκ hξ
  try simp (config := { decide := true }) only [go_sem, Nat.reduceMul, Nat.reduceAdd, Nat.reduceBEq, cond_false, decide_true]
  repeat with_reducible refine And.intro (by first | assumption | omega | (simp; done) | (simp; omega) | (intro hg; simp (config := { decide := true }) only [go_sem, hg]; done) | (intro hg; simp (config := { decide := true }) only [go_sem, hg]; omega)) ?_
  refine hκ _ _ ?_; clear hκ hξ ξ κ
  refine sq ?_
  refine rg [0, 2, 4, 7] [] [] (by kernel_rfl) ?_; intro κ ξ hκ hξ
  try simp (config := { decide := true }) only [go_sem, Nat.reduceMul, Nat.reduceAdd, Nat.reduceBEq, cond_false, decide_true]
  repeat with_reducible refine And.intro (by first | assumption | omega | (simp; done) | (simp; omega) | (intro hg; simp (config := { decide := true }) only [go_sem, hg]; done) | (intro hg; simp (config := { decide := true }) only [go_sem, hg]; omega)) ?_
  refine callF (headN_w) ?_
  try simp (config := { decide := true }) only [go_sem, Nat.reduceMul, Nat.reduceAdd, Nat.reduceBEq, cond_false, decide_true]
  repeat with_reducible refine And.intro (by first | assumption | omega | (simp; done) | (simp; omega) | (intro hg; simp (config := { decide := true }) only [go_sem, hg]; done) | (intro hg; simp (config := { decide := true }) only [go_sem, hg]; omega)) ?_
  refine hκ _ _ ?_; clear hκ hξ ξ κ
  refine sq ?_
  refine sq ?_
  refine rg [0, 2, 4, 7, 23] [] [] (by kernel_rfl) ?_; intro κ ξ hκ hξ
  try simp (config := { decide := true }) only [go_sem, Nat.reduceMul, Nat.reduceAdd, Nat.reduceBEq, cond_false, decide_true]
  repeat with_reducible refine And.intro (by first | assumption | omega | (simp; done) | (simp; omega) | (intro hg; simp (config := { decide := true }) only [go_sem, hg]; done) | (intro hg; simp (config := { decide := true }) only [go_sem, hg]; omega)) ?_
  refine callF (usaN_w _ _) ?_
  try simp (config := { decide := true }) only [go_sem, Nat.reduceMul, Nat.reduceAdd, Nat.reduceBEq, cond_false, decide_true]
  repeat with_reducible refine And.intro (by first | assumption | omega | (simp; done) | (simp; omega) | (intro hg; simp (config := { decide := true }) only [go_sem, hg]; done) | (intro hg; simp (config := { decide := true }) only [go_sem, hg]; omega)) ?_
  refine hκ _ _ ?_; clear hκ hξ ξ κ
  refine cd (by rfl) (fun c0 => ?_) (fun c0 => ?_)
  · skip
    refine sq ?_
    refine rg [6] [] [] (by kernel_rfl) ?_; intro κ ξ hκ hξ
    try simp (config := { decide := true }) only [go_sem, Nat.reduceMul, Nat.reduceAdd, Nat.reduceBEq, cond_false, decide_true, c0]
    repeat with_reducible refine And.intro (by first | assumption | omega | (simp; done) | (simp; omega) | (intro hg; simp (config := { decide := true }) only [go_sem, hg]; done) | (intro hg; simp (config := { decide := true }) only [go_sem, hg]; omega)) ?_
    refine hκ _ _ ?_; clear hκ hξ ξ κ
    refine rt ?_
    refine retE ?_
    simp (config := { decide := true }) only [go_sem, resD, resV, decide_true, c0]
    
  · obtain ⟨h60, hv⟩ := Bool.and_eq_true_iff.1 (show (decide (l.length ≤ 60) && treB l) = true by simpa using c0)
    have hl60 := of_decide_eq_true h60
    have hT := treB_true.1 hv
    have hl1 := hT.len.1
    refine sk ?_
    refine sq ?_
    refine rg [0, 2, 4, 7, 8, 9] [] [] (by kernel_rfl) ?_; intro κ ξ hκ hξ
    try simp (config := { decide := true }) only [go_sem, Nat.reduceMul, Nat.reduceAdd, Nat.reduceBEq, cond_false, decide_true, c0, hv]
    repeat with_reducible refine And.intro (by first | assumption | omega | (simp; done) | (simp; omega) | (intro hg; simp (config := { decide := true }) only [go_sem, hg]; done) | (intro hg; simp (config := { decide := true }) only [go_sem, hg]; omega)) ?_
    refine callF (tins_w _ _ _ _) ?_
    try simp (config := { decide := true }) only [go_sem, Nat.reduceMul, Nat.reduceAdd, Nat.reduceBEq, cond_false, decide_true, c0, hv]
    repeat with_reducible refine And.intro (by first | assumption | omega | (simp; done) | (simp; omega) | (intro hg; simp (config := { decide := true }) only [go_sem, hg]; done) | (intro hg; simp (config := { decide := true }) only [go_sem, hg]; omega)) ?_
    refine hκ _ _ ?_; clear hκ hξ ξ κ
    refine sq ?_
    refine sq ?_
    refine rg [0, 2, 4, 7, 8, 33] [] [] (by kernel_rfl) ?_; intro κ ξ hκ hξ
    try simp (config := { decide := true }) only [go_sem, Nat.reduceMul, Nat.reduceAdd, Nat.reduceBEq, cond_false, decide_true, c0, hv]
    repeat with_reducible refine And.intro (by first | assumption | omega | (simp; done) | (simp; omega) | (intro hg; simp (config := { decide := true }) only [go_sem, hg]; done) | (intro hg; simp (config := { decide := true }) only [go_sem, hg]; omega)) ?_
    refine hκ _ _ ?_; clear hκ hξ ξ κ
    refine cd (by rfl) (fun c1 => ?_) (fun c1 => ?_)
    · have he : ¬ insE l n b = 0 := by simpa using c1
      have hL : insL l n b = [] := by unfold insL; rw [if_neg he]
      refine sq ?_
      refine rg [6] [] [(1, 35)] (by kernel_rfl) ?_; intro κ ξ hκ hξ
      try simp (config := { decide := true }) only [go_sem, Nat.reduceMul, Nat.reduceAdd, Nat.reduceBEq, cond_false, decide_true, c0, hv, c1, hL, List.map_nil, List.length_nil]
      repeat with_reducible refine And.intro (by first | assumption | omega | (simp; done) | (simp; omega) | (intro hg; simp (config := { decide := true }) only [go_sem, hg]; done) | (intro hg; simp (config := { decide := true }) only [go_sem, hg]; omega)) ?_
      refine hκ _ _ ?_; clear hκ hξ ξ κ
      refine rt ?_
      refine retE ?_
      simp (config := { decide := true }) only [go_sem, resD, resV, decide_true, c0, hv, c1, hL, List.map_nil, List.length_nil]
      
    · have he : insE l n b = 0 := by simpa using c1
      obtain ⟨hok, hp0, hL, hbp, hbi, hB⟩ := ins_put he
      obtain ⟨k, hk⟩ : ∃ k, k = (putI l b).toNat := ⟨_, rfl⟩
      rw [← hk] at hok hL hB
      obtain ⟨p, hp⟩ : ∃ p, p = (idx l n.par).toNat := ⟨_, rfl⟩
      rw [← hp] at hok
      obtain ⟨M, hM⟩ : ∃ M, M = l.take k ++ [n] ++ l.drop k := ⟨_, rfl⟩
      have hTM := put_tree hok
      have hlM := put_len hok
      have hnM := put_new hok
      have hback := put_back hok
      have hoth := put_oth l n k
      have hpk := hok.plt
      have hkl := hok.kle
      have hMp : (nat (l.take k ++ [n] ++ l.drop k) p).id = n.par := by rw [nat_put hkl, if_pos hpk]; exact hok.par
      have hkd : kidsL (l.take k ++ [n] ++ l.drop k) n.par = kidsL (l.take k) n.par ++ ([n.id] ++ kidsL (l.drop k) n.par) := by rw [kidsL_append, kidsL_append, List.append_assoc, kidsL_cons, if_pos rfl]; rfl
      rw [← hM] at hL hTM hlM hnM hback hoth hMp hkd
      clear hM
      have hvM : treB M = true := treB_true.2 hTM
      have hpM : p < M.length := by omega
      have hkM : k < M.length := by omega
      have hkM3 : (k : Int) < (M.length : Int) := by omega
      have hxp := idx_self hTM hpM
      rw [hMp] at hxp
      have hxn := idx_self hTM hkM
      rw [hnM] at hxn
      have hgp : gerr M n.par = 0 := gerr_zero.2 ⟨hvM, hbp, by omega⟩
      have hgn : gerr M n.id = 0 := gerr_zero.2 ⟨hvM, hbi, by omega⟩
      have hkM2 : kdL M n.par = kidsL M n.par := by unfold kdL; rw [if_pos hgp]
      have hfn : fi M n.id = (k : Int) := by unfold fi; rw [hxn, if_pos (by omega)]
      have hrE : rmE M n.id = 0 := by unfold rmE; rw [if_pos hgn, hfn, if_neg (by omega)]
      have hrL : rmL M n.id = l := by unfold rmL; rw [if_pos hrE]; exact hback
      obtain ⟨q, hq⟩ : ∃ q, q = (kidsL (l.take k) n.par).length := ⟨_, rfl⟩
      obtain ⟨hq1, hq2, hq3, hq4⟩ := place_ok hTM hpM (b := b) (by rw [hMp]; exact hkd) (by
        rcases hB with ⟨h0, h1⟩ | ⟨h0, c, h1, h2, h3⟩
        · exact .inl ⟨h0, by rw [h1]; rfl⟩
        · exact .inr ⟨h0, _, by rw [h1, kidsL_cons, if_pos h3, h2]⟩)
      rw [hMp, ← hq] at hq1 hq2 hq3 hq4
      have hkn : (kidsL M n.par).length ≤ M.length := kidsL_len _ _
      have hal : alkB (chA l n.id) (chA M n.id) = true := by rw [chA_F, chA_F, hoth]; exact alk_of fun _ => rfl
      have h0k : (0 : Int) ≤ (k : Int) := by omega
      have hn1 : ¬ (k : Int) < 1 := by omega
      have hn2 : ¬ (M.length : Int) ≤ (k : Int) := by omega
      have h0q : (0 : Int) ≤ (q : Int) := by omega
      have hqk : (q : Int) < ((kidsL M n.par).length : Int) := by omega
      have hlen1 : IntKind.wrap .i64 (((kidsL M n.par).length : Int) - 1) = (((kidsL M n.par).length - 1 : Nat) : Int) := by rw [w64 (by omega)]; omega
      refine sk ?_
      refine sq ?_
      refine rg [0, 2, 4, 7, 8, 10, 11] [] [] (by kernel_rfl) ?_; intro κ ξ hκ hξ
      try simp (config := { decide := true }) only [go_sem, Nat.reduceMul, Nat.reduceAdd, Nat.reduceBEq, cond_false, decide_true, c0, hv, c1, he, hL, hvM, hgp, hgn, hkM2, hfn, hrE, hrL, hxn, hbi, hnM, hkM3, h0k, hn1, hn2, Int.toNat_natCast, hlen1]
      repeat with_reducible refine And.intro (by first | assumption | omega | (simp; done) | (simp; omega) | (intro hg; simp (config := { decide := true }) only [go_sem, hg]; done) | (intro hg; simp (config := { decide := true }) only [go_sem, hg]; omega)) ?_
      refine callF (kids2_w _ _ _ (by omega)) ?_
      try simp (config := { decide := true }) only [go_sem, Nat.reduceMul, Nat.reduceAdd, Nat.reduceBEq, cond_false, decide_true, c0, hv, c1, he, hL, hvM, hgp, hgn, hkM2, hfn, hrE, hrL, hxn, hbi, hnM, hkM3, h0k, hn1, hn2, Int.toNat_natCast, hlen1]
      repeat with_reducible refine And.intro (by first | assumption | omega | (simp; done) | (simp; omega) | (intro hg; simp (config := { decide := true }) only [go_sem, hg]; done) | (intro hg; simp (config := { decide := true }) only [go_sem, hg]; omega)) ?_
      refine hκ _ _ ?_; clear hκ hξ ξ κ
      refine sq ?_
      refine rg [0, 2, 4, 7, 8, 10, 11, 12, 13, 14] [] [] (by kernel_rfl) ?_; intro κ ξ hκ hξ
      try simp (config := { decide := true }) only [go_sem, Nat.reduceMul, Nat.reduceAdd, Nat.reduceBEq, cond_false, decide_true, c0, hv, c1, he, hL, hvM, hgp, hgn, hkM2, hfn, hrE, hrL, hxn, hbi, hnM, hkM3, h0k, hn1, hn2, Int.toNat_natCast, hlen1]
      repeat with_reducible refine And.intro (by first | assumption | omega | (simp; done) | (simp; omega) | (intro hg; simp (config := { decide := true }) only [go_sem, hg]; done) | (intro hg; simp (config := { decide := true }) only [go_sem, hg]; omega)) ?_
      refine callF (find_w _ _ _) ?_
      try simp (config := { decide := true }) only [go_sem, Nat.reduceMul, Nat.reduceAdd, Nat.reduceBEq, cond_false, decide_true, c0, hv, c1, he, hL, hvM, hgp, hgn, hkM2, hfn, hrE, hrL, hxn, hbi, hnM, hkM3, h0k, hn1, hn2, Int.toNat_natCast, hlen1]
      repeat with_reducible refine And.intro (by first | assumption | omega | (simp; done) | (simp; omega) | (intro hg; simp (config := { decide := true }) only [go_sem, hg]; done) | (intro hg; simp (config := { decide := true }) only [go_sem, hg]; omega)) ?_
      refine hκ _ _ ?_; clear hκ hξ ξ κ
      refine sq ?_
      refine rg [0, 2, 4, 7, 8, 10, 11, 12, 13, 14, 15, 16] [] [] (by kernel_rfl) ?_; intro κ ξ hκ hξ
      try simp (config := { decide := true }) only [go_sem, Nat.reduceMul, Nat.reduceAdd, Nat.reduceBEq, cond_false, decide_true, c0, hv, c1, he, hL, hvM, hgp, hgn, hkM2, hfn, hrE, hrL, hxn, hbi, hnM, hkM3, h0k, hn1, hn2, Int.toNat_natCast, hlen1]
      repeat with_reducible refine And.intro (by first | assumption | omega | (simp; done) | (simp; omega) | (intro hg; simp (config := { decide := true }) only [go_sem, hg]; done) | (intro hg; simp (config := { decide := true }) only [go_sem, hg]; omega)) ?_
      refine callF (trm_w _ _ _) ?_
      try simp (config := { decide := true }) only [go_sem, Nat.reduceMul, Nat.reduceAdd, Nat.reduceBEq, cond_false, decide_true, c0, hv, c1, he, hL, hvM, hgp, hgn, hkM2, hfn, hrE, hrL, hxn, hbi, hnM, hkM3, h0k, hn1, hn2, Int.toNat_natCast, hlen1]
      repeat with_reducible refine And.intro (by first | assumption | omega | (simp; done) | (simp; omega) | (intro hg; simp (config := { decide := true }) only [go_sem, hg]; done) | (intro hg; simp (config := { decide := true }) only [go_sem, hg]; omega)) ?_
      refine hκ _ _ ?_; clear hκ hξ ξ κ
      refine sq ?_
      refine sq ?_
      refine rgd [0, 2, 4, 7, 8, 10, 15, 98] [] [96] [(2, 64), (6, 68), (10, 72), (14, 76), (20, 82), (24, 86), (32, 94)] (by kernel_rfl) (by kernel_rfl) ?_; intro κ ξ hκ hξ
      try simp (config := { decide := true }) only [go_sem, Nat.reduceMul, Nat.reduceAdd, Nat.reduceBEq, cond_false, decide_true, c0, hv, c1, he, hL, hvM, hgp, hgn, hkM2, hfn, hrE, hrL, hxn, hbi, hnM, hkM3, h0k, hn1, hn2, Int.toNat_natCast, hlen1]
      repeat with_reducible refine And.intro (by first | assumption | omega | (simp; done) | (simp; omega) | (intro hg; simp (config := { decide := true }) only [go_sem, hg]; done) | (intro hg; simp (config := { decide := true }) only [go_sem, hg]; omega)) ?_
      refine vd_gc (by rfl) ?_; simp (config := { decide := true }) only [go_sem, decide_true, c0, hv, c1, he, hL, hvM, hgp, hgn, hkM2, hfn, hrE, hrL, hxn, hbi, hnM, hkM3, h0k, hn1, hn2, Int.toNat_natCast, hlen1]; refine gcallF (fun hg => ⟨by first | rfl | (simp (config := { decide := true }) only [go_sem, hg, decide_true, c0, hv, c1, he, hL, hvM, hgp, hgn, hkM2, hfn, hrE, hrL, hxn, hbi, hnM, hkM3, h0k, hn1, hn2, Int.toNat_natCast, hlen1]; done) | exact hg | simpa using hg, tre_w _ _⟩) ?_
      try simp (config := { decide := true }) only [go_sem, Nat.reduceMul, Nat.reduceAdd, Nat.reduceBEq, cond_false, decide_true, c0, hv, c1, he, hL, hvM, hgp, hgn, hkM2, hfn, hrE, hrL, hxn, hbi, hnM, hkM3, h0k, hn1, hn2, Int.toNat_natCast, hlen1]
      repeat with_reducible refine And.intro (by first | assumption | omega | (simp; done) | (simp; omega) | (intro hg; simp (config := { decide := true }) only [go_sem, hg]; done) | (intro hg; simp (config := { decide := true }) only [go_sem, hg]; omega)) ?_
      refine hκ _ _ ?_; clear hκ hξ ξ κ
      refine cd (by rfl) (fun c2 => ?_) (fun c2 => ?_)
      · exfalso; revert c2; simp
      · skip
        refine sk ?_
        refine sq ?_
        refine rg [0, 2, 4, 7, 8, 10, 15, 17] [] [] (by kernel_rfl) ?_; intro κ ξ hκ hξ
        try simp (config := { decide := true }) only [go_sem, Nat.reduceMul, Nat.reduceAdd, Nat.reduceBEq, cond_false, decide_true, c0, hv, c1, he, hL, hvM, hgp, hgn, hkM2, hfn, hrE, hrL, hxn, hbi, hnM, hkM3, h0k, hn1, hn2, Int.toNat_natCast, hlen1, c2]
        repeat with_reducible refine And.intro (by first | assumption | omega | (simp; done) | (simp; omega) | (intro hg; simp (config := { decide := true }) only [go_sem, hg]; done) | (intro hg; simp (config := { decide := true }) only [go_sem, hg]; omega)) ?_
        refine hκ _ _ ?_; clear hκ hξ ξ κ
        refine sq ?_
        refine sq ?_
        refine rg [0, 2, 4, 7, 8, 10, 15, 17, 102, 103, 104] [] [] (by kernel_rfl) ?_; intro κ ξ hκ hξ
        try simp (config := { decide := true }) only [go_sem, Nat.reduceMul, Nat.reduceAdd, Nat.reduceBEq, cond_false, decide_true, c0, hv, c1, he, hL, hvM, hgp, hgn, hkM2, hfn, hrE, hrL, hxn, hbi, hnM, hkM3, h0k, hn1, hn2, Int.toNat_natCast, hlen1, c2]
        repeat with_reducible refine And.intro (by first | assumption | omega | (simp; done) | (simp; omega) | (intro hg; simp (config := { decide := true }) only [go_sem, hg]; done) | (intro hg; simp (config := { decide := true }) only [go_sem, hg]; omega)) ?_
        refine hκ _ _ ?_; clear hκ hξ ξ κ
        refine bl ?_
        refine lp (α := Nat) (fun j => mk [(0, .sl 5 (l.map nrow) .no), (2, .int .i64 b), (4, .el (nrow n)), (7, .bool true), (8, .sl 5 (M.map nrow) .no), (10, .sl 1 ((kidsL M n.par).map irow) .no), (15, .sl 5 (l.map nrow) .no), (17, .int .i64 ((if q + 1 < j then q else (kidsL M n.par).length - 1 : Nat) : Int)), (102, .sl 1 ((kidsL M n.par).map irow) .no), (103, .int .i64 (kidsL M n.par).length), (104, .int .i64 j)]) (fun _ => []) (fun j => j ≤ (kidsL M n.par).length) (fun j => (kidsL M n.par).length - j) 0 ⟨by omega, EnvLe.of_eq (by rw [if_neg (by omega)]; rfl), .refl _⟩ ?_
        intro j hj
        refine sq ?_
        refine rg [0, 2, 4, 7, 8, 10, 15, 17, 102, 103, 104, 105] [] [] (by kernel_rfl) ?_; intro κ ξ hκ hξ
        try simp (config := { decide := true }) only [go_sem, Nat.reduceMul, Nat.reduceAdd, Nat.reduceBEq, cond_false, decide_true, c0, hv, c1, he, hL, hvM, hgp, hgn, hkM2, hfn, hrE, hrL, hxn, hbi, hnM, hkM3, h0k, hn1, hn2, Int.toNat_natCast, hlen1, c2]
        repeat with_reducible refine And.intro (by first | assumption | omega | (simp; done) | (simp; omega) | (intro hg; simp (config := { decide := true }) only [go_sem, hg]; done) | (intro hg; simp (config := { decide := true }) only [go_sem, hg]; omega)) ?_
        refine hκ _ _ ?_; clear hκ hξ ξ κ
        refine sq ?_
        refine cd (by rfl) (fun c3 => ?_) (fun c3 => ?_)
        · simp only [go_sem] at c3
          have hjk : (j : Int) < ((kidsL M n.par).length : Int) := by omega
          refine sk ?_
          refine sq ?_
          refine bl ?_
          refine sq ?_
          refine rg [0, 2, 4, 7, 8, 10, 15, 17, 18, 19, 102, 103, 104] [] [] (by kernel_rfl) ?_; intro κ ξ hκ hξ
          try simp (config := { decide := true }) only [go_sem, Nat.reduceMul, Nat.reduceAdd, Nat.reduceBEq, cond_false, decide_true, c0, hv, c1, he, hL, hvM, hgp, hgn, hkM2, hfn, hrE, hrL, hxn, hbi, hnM, hkM3, h0k, hn1, hn2, Int.toNat_natCast, hlen1, c2, c3, hjk]
          repeat with_reducible refine And.intro (by first | assumption | omega | (simp; done) | (simp; omega) | (intro hg; simp (config := { decide := true }) only [go_sem, hg]; done) | (intro hg; simp (config := { decide := true }) only [go_sem, hg]; omega)) ?_
          refine hκ _ _ ?_; clear hκ hξ ξ κ
          refine sq ?_
          refine rg [0, 2, 4, 7, 8, 10, 15, 17, 18, 102, 103, 104, 111] [] [] (by kernel_rfl) ?_; intro κ ξ hκ hξ
          try simp (config := { decide := true }) only [go_sem, Nat.reduceMul, Nat.reduceAdd, Nat.reduceBEq, cond_false, decide_true, c0, hv, c1, he, hL, hvM, hgp, hgn, hkM2, hfn, hrE, hrL, hxn, hbi, hnM, hkM3, h0k, hn1, hn2, Int.toNat_natCast, hlen1, c2, c3, hjk]
          repeat with_reducible refine And.intro (by first | assumption | omega | (simp; done) | (simp; omega) | (intro hg; simp (config := { decide := true }) only [go_sem, hg]; done) | (intro hg; simp (config := { decide := true }) only [go_sem, hg]; omega)) ?_
          refine hκ _ _ ?_; clear hκ hξ ξ κ
          refine cd (by rfl) (fun c4 => ?_) (fun c4 => ?_)
          · have c4 : iat (kidsL M n.par) j = b := by simpa using c4
            have hjq := hq3 j (by omega) c4
            refine rg [0, 2, 4, 7, 8, 10, 15, 17, 102, 103, 104] [] [] (by kernel_rfl) ?_; intro κ ξ hκ hξ
            try simp (config := { decide := true }) only [go_sem, Nat.reduceMul, Nat.reduceAdd, Nat.reduceBEq, cond_false, decide_true, c0, hv, c1, he, hL, hvM, hgp, hgn, hkM2, hfn, hrE, hrL, hxn, hbi, hnM, hkM3, h0k, hn1, hn2, Int.toNat_natCast, hlen1, c2, c3, hjk, c4]
            repeat with_reducible refine And.intro (by first | assumption | omega | (simp; done) | (simp; omega) | (intro hg; simp (config := { decide := true }) only [go_sem, hg]; done) | (intro hg; simp (config := { decide := true }) only [go_sem, hg]; omega)) ?_
            refine hκ _ _ ?_; clear hκ hξ ξ κ
            refine rg [0, 2, 4, 7, 8, 10, 15, 17, 102, 103, 104] [] [] (by kernel_rfl) ?_; intro κ ξ hκ hξ
            try simp (config := { decide := true }) only [go_sem, Nat.reduceMul, Nat.reduceAdd, Nat.reduceBEq, cond_false, decide_true, c0, hv, c1, he, hL, hvM, hgp, hgn, hkM2, hfn, hrE, hrL, hxn, hbi, hnM, hkM3, h0k, hn1, hn2, Int.toNat_natCast, hlen1, c2, c3, hjk, c4]
            repeat with_reducible refine And.intro (by first | assumption | omega | (simp; done) | (simp; omega) | (intro hg; simp (config := { decide := true }) only [go_sem, hg]; done) | (intro hg; simp (config := { decide := true }) only [go_sem, hg]; omega)) ?_
            refine hκ _ _ ?_; clear hκ hξ ξ κ
            refine ⟨j + 1, ⟨by omega, by omega⟩, EnvLe.of_eq ?_, .refl _⟩
            rw [w64 (n := (j : Int) + 1) (by omega), w64 (by omega), if_pos (by omega), show ((j : Int) - 1) = ((q : Nat) : Int) by omega]; rfl
          · have c4 : ¬ iat (kidsL M n.par) j = b := by simpa using c4
            refine sk ?_
            refine rg [0, 2, 4, 7, 8, 10, 15, 17, 102, 103, 104] [] [] (by kernel_rfl) ?_; intro κ ξ hκ hξ
            try simp (config := { decide := true }) only [go_sem, Nat.reduceMul, Nat.reduceAdd, Nat.reduceBEq, cond_false, decide_true, c0, hv, c1, he, hL, hvM, hgp, hgn, hkM2, hfn, hrE, hrL, hxn, hbi, hnM, hkM3, h0k, hn1, hn2, Int.toNat_natCast, hlen1, c2, c3, hjk, c4]
            repeat with_reducible refine And.intro (by first | assumption | omega | (simp; done) | (simp; omega) | (intro hg; simp (config := { decide := true }) only [go_sem, hg]; done) | (intro hg; simp (config := { decide := true }) only [go_sem, hg]; omega)) ?_
            refine hκ _ _ ?_; clear hκ hξ ξ κ
            refine ⟨j + 1, ⟨by omega, by omega⟩, EnvLe.of_eq ?_, .refl _⟩
            have e : (if q + 1 < j + 1 then q else (kidsL M n.par).length - 1) = (if q + 1 < j then q else (kidsL M n.par).length - 1) := by
              by_cases h : q + 1 = j
              · exfalso
                rcases hq4 with h4 | h4
                · exact c4 (by rw [← h]; exact h4.2)
                · omega
              · by_cases h2 : q + 1 < j
                · rw [if_pos h2, if_pos (by omega)]
                · rw [if_neg h2, if_neg (by omega)]
            rw [w64 (by omega), e]; rfl
        · simp only [go_sem] at c3
          obtain rfl : j = (kidsL M n.par).length := by omega
          have hpl : (if q + 1 < (kidsL M n.par).length then q else (kidsL M n.par).length - 1) = q := by
            rcases hq4 with h | h
            · rw [if_pos h.1]
            · rw [if_neg (by omega)]; omega
          refine ex ?_
          refine sq ?_
          refine rgd [6] [] [132, 139] [(1, 116), (5, 120), (14, 129), (19, 134)] (by kernel_rfl) (by kernel_rfl) ?_; intro κ ξ hκ hξ
          try simp (config := { decide := true }) only [go_sem, Nat.reduceMul, Nat.reduceAdd, Nat.reduceBEq, cond_false, decide_true, c0, hv, c1, he, hL, hvM, hgp, hgn, hkM2, hfn, hrE, hrL, hxn, hbi, hnM, hkM3, h0k, hn1, hn2, Int.toNat_natCast, hlen1, c2, c3, hpl, hq1, h0q, hqk, hal]
          repeat with_reducible refine And.intro (by first | assumption | omega | (simp; done) | (simp; omega) | (intro hg; simp (config := { decide := true }) only [go_sem, hg]; done) | (intro hg; simp (config := { decide := true }) only [go_sem, hg]; omega)) ?_
          refine vd_gc (by rfl) ?_; simp (config := { decide := true }) only [go_sem, decide_true, c0, hv, c1, he, hL, hvM, hgp, hgn, hkM2, hfn, hrE, hrL, hxn, hbi, hnM, hkM3, h0k, hn1, hn2, Int.toNat_natCast, hlen1, c2, c3, hpl, hq1, h0q, hqk, hal]; refine gcallF (fun hg => ⟨by first | rfl | (simp (config := { decide := true }) only [go_sem, hg, decide_true, c0, hv, c1, he, hL, hvM, hgp, hgn, hkM2, hfn, hrE, hrL, hxn, hbi, hnM, hkM3, h0k, hn1, hn2, Int.toNat_natCast, hlen1, c2, c3, hpl, hq1, h0q, hqk, hal]; done) | exact hg | simpa using hg, sameN_w _ _ _ _⟩) ?_
          try simp (config := { decide := true }) only [go_sem, Nat.reduceMul, Nat.reduceAdd, Nat.reduceBEq, cond_false, decide_true, c0, hv, c1, he, hL, hvM, hgp, hgn, hkM2, hfn, hrE, hrL, hxn, hbi, hnM, hkM3, h0k, hn1, hn2, Int.toNat_natCast, hlen1, c2, c3, hpl, hq1, h0q, hqk, hal]
          repeat with_reducible refine And.intro (by first | assumption | omega | (simp; done) | (simp; omega) | (intro hg; simp (config := { decide := true }) only [go_sem, hg]; done) | (intro hg; simp (config := { decide := true }) only [go_sem, hg]; omega)) ?_
          refine vd_gc (by rfl) ?_; simp (config := { decide := true }) only [go_sem, decide_true, c0, hv, c1, he, hL, hvM, hgp, hgn, hkM2, hfn, hrE, hrL, hxn, hbi, hnM, hkM3, h0k, hn1, hn2, Int.toNat_natCast, hlen1, c2, c3, hpl, hq1, h0q, hqk, hal]; refine gcallF (fun hg => ⟨by first | rfl | (simp (config := { decide := true }) only [go_sem, hg, decide_true, c0, hv, c1, he, hL, hvM, hgp, hgn, hkM2, hfn, hrE, hrL, hxn, hbi, hnM, hkM3, h0k, hn1, hn2, Int.toNat_natCast, hlen1, c2, c3, hpl, hq1, h0q, hqk, hal]; done) | exact hg | simpa using hg, alk_w _ _ _ _ _ (by omega) (by omega)⟩) ?_
          try simp (config := { decide := true }) only [go_sem, Nat.reduceMul, Nat.reduceAdd, Nat.reduceBEq, cond_false, decide_true, c0, hv, c1, he, hL, hvM, hgp, hgn, hkM2, hfn, hrE, hrL, hxn, hbi, hnM, hkM3, h0k, hn1, hn2, Int.toNat_natCast, hlen1, c2, c3, hpl, hq1, h0q, hqk, hal]
          repeat with_reducible refine And.intro (by first | assumption | omega | (simp; done) | (simp; omega) | (intro hg; simp (config := { decide := true }) only [go_sem, hg]; done) | (intro hg; simp (config := { decide := true }) only [go_sem, hg]; omega)) ?_
          refine hκ _ _ ?_; clear hκ hξ ξ κ
          refine rt ?_
          refine retE ?_
          simp (config := { decide := true }) only [go_sem, resD, resV, decide_true, c0, hv, c1, he, hL, hvM, hgp, hgn, hkM2, hfn, hrE, hrL, hxn, hbi, hnM, hkM3, h0k, hn1, hn2, Int.toNat_natCast, hlen1, c2, c3, hpl, hq1, h0q, hqk, hal]
          

end Go.Proofs.Ytgccnkihonmlbaa

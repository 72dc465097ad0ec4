/- The walk of the law's map of children. Printed by a tool of our own. -/
import Derived.Test.YtgccnkihonmlbaaTv
import Derived.Test.YtgccnkihonmlbaaTp
namespace Go.Proofs.Ytgccnkihonmlbaa
open Go Go.RowKit
set_option linter.unusedSimpArgs false
set_option linter.unusedVariables false
set_option maxHeartbeats 4000000
set_option maxRecDepth 100000
theorem ce_len {l : List Nd} {but : Int} {i : Nat} {E : List CE} (h : E.map CE.er = chM l but i) {e : CE} (he : e ∈ E) : e.2.1.length ≤ i := by
  have h2 : e.er ∈ chM l but i := by rw [← h]; exact List.mem_map_of_mem he
  exact len_chM l but i _ h2
theorem ce_putN {k v : Int} {b c : Nat} {E : List CE} (h : E.find? (fun e => decide (k = e.1)) = none) : mput (.int .i64 k) (.sl 1 [[.int .i64 v]] (.own b c)) (ceE E) = some (ceE (addC k v b c E)) := ce_put k v b c [] E (by rw [h]; rfl)
theorem ce_putS {k v : Int} {b c : Nat} {E : List CE} {e : CE} (h : E.find? (fun e => decide (k = e.1)) = some e) : mput (.int .i64 k) (.sl 1 ((e.2.1 ++ [v]).map irow) (.own b c)) (ceE E) = some (ceE (addC k v b c E)) := ce_put k v b c e.2.1 E (by rw [h]; rfl)
attribute [local go_sem ↓] vo_nil vK_eq vo_q vo_g vo_n vo_c vd_nil dK_eq eK_eq vd_q vd_g vd_n vd_st vd_c cgs_call cgs_builtin
attribute [local go_sem] Ext_refl Ext_cons
attribute [local go_sem] quiet_move quiet_assign quiet_pick quiet_binOp quiet_unOp quiet_convert quiet_field quiet_fieldAddr quiet_indexAddr quiet_index quiet_load quiet_lookup quiet_extract quiet_build quiet_makeInterface quiet_makeFunc quiet_slice quiet_nilCheck quiet_alloc isCall_alloc quiet_box isCall_box quiet_buildSlice isCall_buildSlice quiet_store isCall_store quiet_range isCall_range quiet_next isCall_next quiet_makeSlice isCall_makeSlice quiet_panic isCall_panic quiet_len quiet_cap quiet_min quiet_max quiet_append isCall_append quiet_copy isCall_copy quiet_delete isCall_delete nqk_alloc nqk_box nqk_buildSlice nqk_range nqk_next nqk_makeSlice nqk_panic nqk_makeMap nqk_entry nqk_append nqk_copy nqk_delete isSt_alloc isSt_box isSt_buildSlice isSt_range isSt_next isSt_makeSlice isSt_panic isSt_makeMap isSt_entry isSt_store isSt_mapUpdate isSt_insert isSt_append isSt_copy isSt_delete quiet_makeMap isCall_makeMap quiet_mapUpdate isCall_mapUpdate quiet_insert isCall_insert
attribute [local go_sem] argEnv qev opd put_some put_none set_at mk_cons mk_nil prune_eq D.ofV ofC_int ofC_nil ofC_str ofC_nilmap ofC_nilfunc ofC_nilptr true_and ofC_bool bop isSh ibop Bool.false_eq_true if_false if_true and_self D.core D.cg qpick isB bof gval look Option.bind_some opc cgs Op.operands List.all_cons List.all_nil Bool.and_true and_true true_imp_iff imp_self false_imp_iff beq_true beq_false beq_iff_eq decide_eq_true_eq List.map_cons List.map_nil Bool.not_eq_true' decide_eq_false_iff_not gof gq gev cond_some Option.isSome_some Bool.or_eq_true Bool.and_eq_true Bool.or_eq_false_iff Bool.and_eq_false_iff Bool.not_eq_true Bool.not_eq_false Bool.not_eq_false' ne_eq implies_true forall_const Bool.cond_true_left Bool.cond_false_right not_false_eq_true not_true_eq_false Int.toNat_natCast Int.toNat_zero
attribute [local go_sem] qbuiltin qlook ments foldI mget mput keqD keyOK lookD_s lookD_n lookD_fs lookD_fn nput agop deqF deq1 nappZ cond_true cond_false Option.getD_some Option.getD_none Option.isSome_none ite_self qindex qslice qconv qextract qfield qfaddr qiaddr qload quop qiface qbuild qnil ldC ldD ob List.drop_succ_cons take_mapr drop_mapr List.drop_zero List.take_succ_cons List.take_zero List.length_cons List.length_nil List.getElem?_cons_zero List.getElem?_cons_succ Option.map_some Option.map_none List.head?_cons
attribute [local go_sem] nev isImm List.contains_cons List.contains_nil Bool.or_false Bool.or_true D.flat D.cellsOf D.isCell Bool.or_self Bool.and_self szOf nstore Store.get Store.upd putCells nk_cons not_or FZ frzE_mk frzL inL frz Store.del or_false boxCells List.headD_cons List.headD_nil List.nil_append List.append_nil List.cons_append List.drop_nil false_and and_false false_or true_or or_true Bool.false_and Bool.true_and Bool.false_or Bool.true_or Bool.and_false setPs lim_eq chunk zrep pls_eq plsF fillD resAll shop sbop bbop decide_true decide_false Bool.not_true Bool.not_false eq_self
attribute [local go_sem] tf0 tf1 tf2 tf3 tf4 tf5 tf6 tf7 tf8 tf9 tf10 tf11 tf12 tf13 tf14 tf15 tf16 tf17 tf18 tf19 tf20 tf21 tf22 tf23 tf24 tf25 tf26 tf27 tf28 tf29 tf30 tf31 tf32 tf33 tf34 tf35 tf36 tf37 tf38 tf39 tf40 tf41 tf42 tf43 tf44 tf45 tf46 tf47 tf48 tf49 tf50 tf51 tf52 tf53 tf54 tf55 tf56 tf57 tf58 tf59 tf60 tf61 tf62 tf63 tf64 tf65 tf66 tf67 tf68 tf69 tf70 tf71 tf72 tf73 tf74 tf75 tf76 tf77 tf78 tf79 tf80 tf81 tf82 tf83 tf84 tf85 tf86 tf87 tf88 tf89 tf90 tf91 tf92 tf93 tf94 tf95 tf96 tf97 tf98 tf99 tf100 tf101 tf102 tf103 tf104 tf105 tf106 tf107 tf108 tf109 tf110 tf111 tf112 tf113 tf114 tf115 tf116 tf117 tf118 tf119 tf120 tf121 tf122 tf123 tf124 tf125 tf126 tf127 tf128 tf129 tf130 tf131 tf132 tf133 tf134 tf135 tf136 tf137 tf138 tf139 tf140 tf141 tf142 tf143 tf144 tf145 tf146 tf147 tf148 tf149 tf150 tf151 tf152 tf153 tf154 tf155 tf156 tf157 tf158 tf159 tf160 tf161 tf162 tf163 tf164 tf165 tf166 tf167 tf168 tf169 tf170 tf171 tf172 tf173 tf174 tf175 tf176 tf177 tf178 tf179 tf180 tf181 tf182 tf183 tf184 tf185 tf186 tf187 tf188 tf189 tf190 tf191 tf192 tf193 tf194 tf195 tf196 tf197 tf198 tf199 tf200 tf201 tf202 tf203 tf204 tf205 tf206 tf207 tf208 tf209 tf210 tf211 tf212 tf213 tf214 tf215 tf216 tf217 tf218 tf219 tf220 tf221 tf222 tf223 tf224 tf225 tf226 tf227 tf228 tf229 tf230 tf231 tf232 tf233 tf234 tf235 tf236 tf237 tf238 tf239 tf240 tf241 tf242 tf243 tf244 tf245 tf246 tf247 tf248 tf249 tf250 tf251 tf252
attribute [local go_sem] List.length_map rowAt_n nrow rowAt_t trow rowAt_i irow
attribute [local go_sem] pl_getF pl_lookF pl_lookF' foldI
attribute [local go_sem] ce_get ceV
theorem chi_w (l : List Nd) (t : Tok) (x : Int) (hs : l.length ≤ 1000000) : RCall Try.prog (.func 83) [.sl 5 (l.map nrow) t, .int .i64 x] [] (fun (y : Nat × List CE) => .mp y.1) (fun (y : Nat × List CE) => [(y.1, .map (ceE y.2))]) (fun (y : Nat × List CE) => y.2.map CE.er = chA l x) := by
  refine fn_ Try.func83 (by rfl) (by rfl) (rs := [.tmp 4]) (by rfl) (by simp [Try.f83]) ?_
  refine sq ?_
  refine rg [0, 1] [] [] (by kernel_rfl) ?_; intro κ ξ hκ hξ
  try simp (config := { decide := true }) only [go_sem, Nat.reduceMul, Nat.reduceAdd, Nat.reduceBEq, cond_false]
  repeat with_reducible refine And.intro (by first | assumption | omega | (simp; done) | (simp; omega) | (intro hg; simp (config := { decide := true }) only [go_sem, hg]; done) | (intro hg; simp (config := { decide := true }) only [go_sem, hg]; omega)) ?_
  refine hκ _ _ ?_; clear hκ hξ ξ κ
  refine sq ?_
  refine rg [0, 1, 5] [] [] (by kernel_rfl) ?_; intro κ ξ hκ hξ
  try simp (config := { decide := true }) only [go_sem, Nat.reduceMul, Nat.reduceAdd, Nat.reduceBEq, cond_false]
  repeat with_reducible refine And.intro (by first | assumption | omega | (simp; done) | (simp; omega) | (intro hg; simp (config := { decide := true }) only [go_sem, hg]; done) | (intro hg; simp (config := { decide := true }) only [go_sem, hg]; omega)) ?_
  intro b8 hb8
  try simp (config := { decide := true }) only [go_sem, Nat.reduceMul, Nat.reduceAdd, Nat.reduceBEq, cond_false, hb8]
  repeat with_reducible refine And.intro (by first | assumption | omega | (simp; done) | (simp; omega) | (intro hg; simp (config := { decide := true }) only [go_sem, hg]; done) | (intro hg; simp (config := { decide := true }) only [go_sem, hg]; omega)) ?_
  refine hκ _ _ ?_; clear hκ hξ ξ κ
  refine sq ?_
  refine sq ?_
  refine rg [1, 5, 9, 10, 11] [] [] (by kernel_rfl) ?_; intro κ ξ hκ hξ
  try simp (config := { decide := true }) only [go_sem, Nat.reduceMul, Nat.reduceAdd, Nat.reduceBEq, cond_false, hb8]
  repeat with_reducible refine And.intro (by first | assumption | omega | (simp; done) | (simp; omega) | (intro hg; simp (config := { decide := true }) only [go_sem, hg]; done) | (intro hg; simp (config := { decide := true }) only [go_sem, hg]; omega)) ?_
  refine hκ _ _ ?_; clear hκ hξ ξ κ
  refine bl ?_
  refine lpp (α := Nat × List CE) (fun y => mk [(1, .int .i64 x), (5, .mp b8), (9, .sl 5 (l.map nrow) t), (10, .int .i64 l.length), (11, .int .i64 y.1)]) (fun y => (b8, .map (ceE y.2)) :: ceS y.2) (fun y => y.1 ≤ l.length ∧ y.2.map CE.er = chM l x y.1) (fun y => l.length - y.1) (0, []) ⟨⟨by omega, rfl⟩, EnvLe.of_eq rfl, .refl _⟩ ?_
  rintro ⟨i, E⟩ ⟨hi, hE⟩
  simp only at hi hE
  refine sq ?_
  refine rg [1, 5, 9, 10, 11, 12] [] [] (by kernel_rfl) ?_; intro κ ξ hκ hξ
  try simp (config := { decide := true }) only [go_sem, Nat.reduceMul, Nat.reduceAdd, Nat.reduceBEq, cond_false, hb8]
  repeat with_reducible refine And.intro (by first | assumption | omega | (simp; done) | (simp; omega) | (intro hg; simp (config := { decide := true }) only [go_sem, hg]; done) | (intro hg; simp (config := { decide := true }) only [go_sem, hg]; omega)) ?_
  refine hκ _ _ ?_; clear hκ hξ ξ κ
  refine sq ?_
  refine cd (by rfl) (fun c0 => ?_) (fun c0 => ?_)
  · simp only [go_sem] at c0
    have hil : i < l.length := by omega
    refine sk ?_
    refine sq ?_
    refine bl ?_
    refine sq ?_
    refine rgz [(7, [])] [1, 5, 7, 9, 10, 11] [] [] (by kernel_rfl) ?_; intro κ ξ hκ hξ
    try simp (config := { decide := true }) only [go_sem, Nat.reduceMul, Nat.reduceAdd, Nat.reduceBEq, cond_false, hb8, c0]
    repeat with_reducible refine And.intro (by first | assumption | omega | (simp; done) | (simp; omega) | (intro hg; simp (config := { decide := true }) only [go_sem, hg]; done) | (intro hg; simp (config := { decide := true }) only [go_sem, hg]; omega)) ?_
    intro b7 hb7
    try simp (config := { decide := true }) only [go_sem, Nat.reduceMul, Nat.reduceAdd, Nat.reduceBEq, cond_false, hb8, c0, hb7]
    repeat with_reducible refine And.intro (by first | assumption | omega | (simp; done) | (simp; omega) | (intro hg; simp (config := { decide := true }) only [go_sem, hg]; done) | (intro hg; simp (config := { decide := true }) only [go_sem, hg]; omega)) ?_
    refine hκ _ _ ?_; clear hκ hξ ξ κ
    refine sq ?_
    refine rg [1, 5, 7, 9, 10, 11, 18] [] [] (by kernel_rfl) ?_; intro κ ξ hκ hξ
    try simp (config := { decide := true }) only [go_sem, Nat.reduceMul, Nat.reduceAdd, Nat.reduceBEq, cond_false, hb8, c0, hb7]
    repeat with_reducible refine And.intro (by first | assumption | omega | (simp; done) | (simp; omega) | (intro hg; simp (config := { decide := true }) only [go_sem, hg]; done) | (intro hg; simp (config := { decide := true }) only [go_sem, hg]; omega)) ?_
    refine hκ _ _ ?_; clear hκ hξ ξ κ
    refine cd (by rfl) (fun c1 => ?_) (fun c1 => ?_)
    · have c1 : ¬ (nat l i).id = x := by simpa using c1
      refine nodupW fun hnd => ?_
      rcases hf : E.find? (fun e => decide ((nat l i).par = e.1)) with _ | e
      · skip
        refine rgd [1, 5, 9, 10, 11] [] [] [] (by kernel_rfl) (by kernel_rfl) ?_; intro κ ξ hκ hξ
        try simp (config := { decide := true }) only [go_sem, Nat.reduceMul, Nat.reduceAdd, Nat.reduceBEq, cond_false, hb8, c0, hb7, c1, hf, ce_putN hf]
        repeat with_reducible refine And.intro (by first | assumption | omega | (simp; done) | (simp; omega) | (intro hg; simp (config := { decide := true }) only [go_sem, hg]; done) | (intro hg; simp (config := { decide := true }) only [go_sem, hg]; omega)) ?_
        first
        | (refine napp_n rfl rfl (by simp (config := { decide := true }) only [go_sem, Option.isSome_some]) tf117 tf118 tf36 (by refine ⟨⟨rfl, by decide, by decide⟩, by simp [D.isCell], by simp, ?_⟩; simp [capB]) ?_; intro b29 c29 hb29; have hx29 := fun x => Ext_cons (x := x) hb29; simp only [nk_cons, not_or] at hb29; simp (config := { decide := true }) only [go_sem, hb8, c0, hb7, c1, hf, ce_putN hf, hb29, hx29])
        | (refine napp_ce hf hnd rfl rfl (by simp (config := { decide := true }) only [go_sem, Option.isSome_some]) tf117 tf118 tf36 ⟨rfl, by decide, by unfold capB; omega⟩ ?_; intro b29 c29; refine ⟨Ext_ce _ _ _ _, ?_⟩)
        try simp (config := { decide := true }) only [go_sem, Nat.reduceMul, Nat.reduceAdd, Nat.reduceBEq, cond_false, hb8, c0, hb7, c1, hf, ce_putN hf]
        repeat with_reducible refine And.intro (by first | assumption | omega | (simp; done) | (simp; omega) | (intro hg; simp (config := { decide := true }) only [go_sem, hg]; done) | (intro hg; simp (config := { decide := true }) only [go_sem, hg]; omega)) ?_
        refine hκ _ _ ?_; clear hκ hξ ξ κ
        refine rg [1, 5, 9, 10, 11] [] [] (by kernel_rfl) ?_; intro κ ξ hκ hξ
        try simp (config := { decide := true }) only [go_sem, Nat.reduceMul, Nat.reduceAdd, Nat.reduceBEq, cond_false, hb8, c0, hb7, c1, hf, ce_putN hf]
        repeat with_reducible refine And.intro (by first | assumption | omega | (simp; done) | (simp; omega) | (intro hg; simp (config := { decide := true }) only [go_sem, hg]; done) | (intro hg; simp (config := { decide := true }) only [go_sem, hg]; omega)) ?_
        refine hκ _ _ ?_; clear hκ hξ ξ κ
        have hs1 : chM l x (i + 1) = addK (nat l i).par (nat l i).id (chM l x i) := by rw [chM, if_neg c1]
        refine ⟨(i + 1, addC (nat l i).par (nat l i).id b29 c29 E), ⟨⟨by omega, by rw [addC_er, hE, hs1]⟩, by simp only; omega⟩, EnvLe.of_eq (by rw [w64 (by omega)]; rfl), ?_⟩
        rw [addC_new hf]
        exact ((List.Perm.swap _ _ _).trans (List.Perm.cons _ (by show List.Perm _ (ceS (E ++ [((nat l i).par, [(nat l i).id], b29, c29)])); rw [show ceS (E ++ [((nat l i).par, [(nat l i).id], b29, c29)]) = ceS E ++ [(b29, .tail 1 1 c29)] from by simp [ceS]]; exact List.perm_append_comm (l₁ := [_]))))
      · have hel := ce_len hE (find_key hf).1
        refine rgd [1, 5, 9, 10, 11] [] [] [] (by kernel_rfl) (by kernel_rfl) ?_; intro κ ξ hκ hξ
        try simp (config := { decide := true }) only [go_sem, Nat.reduceMul, Nat.reduceAdd, Nat.reduceBEq, cond_false, hb8, c0, hb7, c1, hf, ce_putS hf]
        repeat with_reducible refine And.intro (by first | assumption | omega | (simp; done) | (simp; omega) | (intro hg; simp (config := { decide := true }) only [go_sem, hg]; done) | (intro hg; simp (config := { decide := true }) only [go_sem, hg]; omega)) ?_
        first
        | (refine napp_n rfl rfl (by simp (config := { decide := true }) only [go_sem, Option.isSome_some]) tf117 tf118 tf36 (by refine ⟨⟨rfl, by decide, by decide⟩, by simp [D.isCell], by simp, ?_⟩; simp [capB]) ?_; intro b29 c29 hb29; have hx29 := fun x => Ext_cons (x := x) hb29; simp only [nk_cons, not_or] at hb29; simp (config := { decide := true }) only [go_sem, hb8, c0, hb7, c1, hf, ce_putS hf, hb29, hx29])
        | (refine napp_ce hf hnd rfl rfl (by simp (config := { decide := true }) only [go_sem, Option.isSome_some]) tf117 tf118 tf36 ⟨rfl, by decide, by unfold capB; omega⟩ ?_; intro b29 c29; refine ⟨Ext_ce _ _ _ _, ?_⟩)
        try simp (config := { decide := true }) only [go_sem, Nat.reduceMul, Nat.reduceAdd, Nat.reduceBEq, cond_false, hb8, c0, hb7, c1, hf, ce_putS hf]
        repeat with_reducible refine And.intro (by first | assumption | omega | (simp; done) | (simp; omega) | (intro hg; simp (config := { decide := true }) only [go_sem, hg]; done) | (intro hg; simp (config := { decide := true }) only [go_sem, hg]; omega)) ?_
        refine hκ _ _ ?_; clear hκ hξ ξ κ
        refine rg [1, 5, 9, 10, 11] [] [] (by kernel_rfl) ?_; intro κ ξ hκ hξ
        try simp (config := { decide := true }) only [go_sem, Nat.reduceMul, Nat.reduceAdd, Nat.reduceBEq, cond_false, hb8, c0, hb7, c1, hf, ce_putS hf]
        repeat with_reducible refine And.intro (by first | assumption | omega | (simp; done) | (simp; omega) | (intro hg; simp (config := { decide := true }) only [go_sem, hg]; done) | (intro hg; simp (config := { decide := true }) only [go_sem, hg]; omega)) ?_
        refine hκ _ _ ?_; clear hκ hξ ξ κ
        have hs1 : chM l x (i + 1) = addK (nat l i).par (nat l i).id (chM l x i) := by rw [chM, if_neg c1]
        refine ⟨(i + 1, addC (nat l i).par (nat l i).id b29 c29 E), ⟨⟨by omega, by rw [addC_er, hE, hs1]⟩, by simp only; omega⟩, EnvLe.of_eq (by rw [w64 (by omega)]; rfl), ?_⟩
        exact .refl _
    · have c1 : (nat l i).id = x := by simpa using c1
      refine sk ?_
      refine rg [1, 5, 9, 10, 11] [] [] (by kernel_rfl) ?_; intro κ ξ hκ hξ
      try simp (config := { decide := true }) only [go_sem, Nat.reduceMul, Nat.reduceAdd, Nat.reduceBEq, cond_false, hb8, c0, hb7, c1]
      repeat with_reducible refine And.intro (by first | assumption | omega | (simp; done) | (simp; omega) | (intro hg; simp (config := { decide := true }) only [go_sem, hg]; done) | (intro hg; simp (config := { decide := true }) only [go_sem, hg]; omega)) ?_
      refine hκ _ _ ?_; clear hκ hξ ξ κ
      have hs1 : chM l x (i + 1) = chM l x i := by rw [chM, if_pos c1]
      refine ⟨(i + 1, E), ⟨⟨by omega, by rw [hs1]; exact hE⟩, by simp only; omega⟩, EnvLe.of_eq (by rw [w64 (by omega)]; rfl), .refl _⟩
  · simp only [go_sem] at c0
    obtain rfl : i = l.length := by omega
    refine ex ?_
    refine sq ?_
    refine rg [4] [] [] (by kernel_rfl) ?_; intro κ ξ hκ hξ
    try simp (config := { decide := true }) only [go_sem, Nat.reduceMul, Nat.reduceAdd, Nat.reduceBEq, cond_false, hb8, c0]
    repeat with_reducible refine And.intro (by first | assumption | omega | (simp; done) | (simp; omega) | (intro hg; simp (config := { decide := true }) only [go_sem, hg]; done) | (intro hg; simp (config := { decide := true }) only [go_sem, hg]; omega)) ?_
    refine hκ _ _ ?_; clear hκ hξ ξ κ
    refine rt ?_
    refine retR ((b8, E)) ?_ ?_ ?_
    · exact List.Sublist.cons_cons _ (List.nil_sublist _)
    · first | trivial | assumption | omega | (simp; done) | skip
    simp (config := { decide := true }) only [go_sem, resD, resV, hb8, c0]
    all_goals rfl

end Go.Proofs.Ytgccnkihonmlbaa
/- The walk of the law's comparison of children. Printed by a tool of our own. -/
namespace Go.Proofs.Ytgccnkihonmlbaa
open Go Go.RowKit
set_option linter.unusedSimpArgs false
set_option linter.unusedVariables false
set_option maxHeartbeats 4000000
set_option maxRecDepth 100000
theorem sameI0_w (a : List Int) (t : Tok) : PCall Try.prog (.func 40) [.sl 1 (a.map irow) t, .sl 0 [] .nil] (.bool (decide (a = []))) := by
  intro M w vs hc hr
  refine sameI_w a [] t .nil M w vs hc ?_
  match vs, hr with
  | [x, y], hr =>
    simp only [RAll, R, List.map_nil] at hr ⊢
    obtain ⟨h0, ⟨p, cap, e, h1, h2, h3, h4⟩, -⟩ := hr
    exact ⟨h0, ⟨p, cap, e, h1, h2, fun h => absurd rfl h, h4⟩, trivial⟩
theorem sameL_w (a : List Int) (t : Tok) (k : Int) (E : List CE) : PCall Try.prog (.func 40) [.sl 1 (a.map irow) t, lookD false (.sl 0 [] .nil) ((E.find? fun e => decide (k = e.1)).map ceV)] (.bool (decide (a = vlk (E.map CE.er) k))) := by
  rw [vlk_er]
  cases h : E.find? (fun e => decide (k = e.1)) with
  | none => rw [Option.map_none, lookD_fn]; exact sameI0_w a t
  | some e => rw [Option.map_some, lookD_fs]; exact sameI_w a e.2.1 t _
def cat1 (E : List CE) (i : Nat) : CE := E.getD i ce0
theorem ce_getD {E : List CE} {i : Nat} (h : i < E.length) : (ceE E).getD i (.top, .top) = (.int .i64 (cat1 E i).1, ceV (cat1 E i)) := by
  unfold ceE cat1
  simp [List.getD_eq_getElem?_getD, h]
theorem ceE_len (E : List CE) : (ceE E).length = E.length := by simp [ceE]
theorem alk_true {E F : List CE} {A B : List (Int × List Int)} (hE : E.map CE.er = A) (hF : F.map CE.er = B) (h : ∀ i, i < E.length → (cat1 E i).2.1 = vlk B (cat1 E i).1) : alkB A B = decide ((E.length : Int) = F.length) := by
  subst hE; subst hF
  unfold alkB
  have h1 : ∀ e ∈ E.map CE.er, e.2 = vlk (F.map CE.er) e.1 := by
    intro e he
    obtain ⟨x, hx, rfl⟩ := List.mem_map.1 he
    obtain ⟨i, hi, rfl⟩ := List.getElem_of_mem hx
    have := h i hi
    unfold cat1 at this
    rw [List.getD_eq_getElem?_getD, List.getElem?_eq_getElem hi] at this
    exact this
  rw [decide_eq_true h1, Bool.true_and, List.length_map, List.length_map]
  exact decide_eq_decide.2 (by omega)
theorem alk_false {E : List CE} {A B : List (Int × List Int)} {i : Nat} (hE : E.map CE.er = A) (hi : i < E.length) (h : (cat1 E i).2.1 ≠ vlk B (cat1 E i).1) : alkB A B = false := by
  subst hE
  unfold alkB
  rw [decide_eq_false, Bool.false_and]
  intro h1
  apply h
  have := h1 (CE.er (cat1 E i)) (List.mem_map_of_mem (by unfold cat1; rw [List.getD_eq_getElem?_getD, List.getElem?_eq_getElem hi]; exact List.getElem_mem hi))
  exact this
def seenI (pos : List Nat) : Option Nat → List Nat
  | none => pos
  | some i => pos ++ [i]
attribute [local go_sem ↓] vo_nil vK_eq vo_q vo_g vo_n vo_c vd_nil dK_eq eK_eq vd_q vd_g vd_n vd_st vd_c cgs_call cgs_builtin
attribute [local go_sem] Ext_refl Ext_cons
attribute [local go_sem] quiet_move quiet_assign quiet_pick quiet_binOp quiet_unOp quiet_convert quiet_field quiet_fieldAddr quiet_indexAddr quiet_index quiet_load quiet_lookup quiet_extract quiet_build quiet_makeInterface quiet_makeFunc quiet_slice quiet_nilCheck quiet_alloc isCall_alloc quiet_box isCall_box quiet_buildSlice isCall_buildSlice quiet_store isCall_store quiet_range isCall_range quiet_next isCall_next quiet_makeSlice isCall_makeSlice quiet_panic isCall_panic quiet_len quiet_cap quiet_min quiet_max quiet_append isCall_append quiet_copy isCall_copy quiet_delete isCall_delete nqk_alloc nqk_box nqk_buildSlice nqk_range nqk_next nqk_makeSlice nqk_panic nqk_makeMap nqk_entry nqk_append nqk_copy nqk_delete isSt_alloc isSt_box isSt_buildSlice isSt_range isSt_next isSt_makeSlice isSt_panic isSt_makeMap isSt_entry isSt_store isSt_mapUpdate isSt_insert isSt_append isSt_copy isSt_delete quiet_makeMap isCall_makeMap quiet_mapUpdate isCall_mapUpdate quiet_insert isCall_insert
attribute [local go_sem] argEnv qev opd put_some put_none set_at mk_cons mk_nil prune_eq D.ofV ofC_int ofC_nil ofC_str ofC_nilmap ofC_nilfunc ofC_nilptr true_and ofC_bool bop isSh ibop Bool.false_eq_true if_false if_true and_self D.core D.cg qpick isB bof gval look Option.bind_some opc cgs Op.operands List.all_cons List.all_nil Bool.and_true and_true true_imp_iff imp_self false_imp_iff beq_true beq_false beq_iff_eq decide_eq_true_eq List.map_cons List.map_nil Bool.not_eq_true' decide_eq_false_iff_not gof gq gev cond_some Option.isSome_some Bool.or_eq_true Bool.and_eq_true Bool.or_eq_false_iff Bool.and_eq_false_iff Bool.not_eq_true Bool.not_eq_false Bool.not_eq_false' ne_eq implies_true forall_const Bool.cond_true_left Bool.cond_false_right not_false_eq_true not_true_eq_false Int.toNat_natCast Int.toNat_zero
attribute [local go_sem] qbuiltin qlook ments foldI mget mput keqD keyOK lookD_s lookD_n lookD_fs lookD_fn nput agop deqF deq1 nappZ cond_true cond_false Option.getD_some Option.getD_none Option.isSome_none ite_self qindex qslice qconv qextract qfield qfaddr qiaddr qload quop qiface qbuild qnil ldC ldD ob List.drop_succ_cons take_mapr drop_mapr List.drop_zero List.take_succ_cons List.take_zero List.length_cons List.length_nil List.getElem?_cons_zero List.getElem?_cons_succ Option.map_some Option.map_none List.head?_cons
attribute [local go_sem] nev isImm List.contains_cons List.contains_nil Bool.or_false Bool.or_true D.flat D.cellsOf D.isCell Bool.or_self Bool.and_self szOf nstore Store.get Store.upd putCells nk_cons not_or FZ frzE_mk frzL inL frz Store.del or_false boxCells List.headD_cons List.headD_nil List.nil_append List.append_nil List.cons_append List.drop_nil false_and and_false false_or true_or or_true Bool.false_and Bool.true_and Bool.false_or Bool.true_or Bool.and_false setPs lim_eq chunk zrep pls_eq plsF fillD resAll shop sbop bbop decide_true decide_false Bool.not_true Bool.not_false eq_self
attribute [local go_sem] tf0 tf1 tf2 tf3 tf4 tf5 tf6 tf7 tf8 tf9 tf10 tf11 tf12 tf13 tf14 tf15 tf16 tf17 tf18 tf19 tf20 tf21 tf22 tf23 tf24 tf25 tf26 tf27 tf28 tf29 tf30 tf31 tf32 tf33 tf34 tf35 tf36 tf37 tf38 tf39 tf40 tf41 tf42 tf43 tf44 tf45 tf46 tf47 tf48 tf49 tf50 tf51 tf52 tf53 tf54 tf55 tf56 tf57 tf58 tf59 tf60 tf61 tf62 tf63 tf64 tf65 tf66 tf67 tf68 tf69 tf70 tf71 tf72 tf73 tf74 tf75 tf76 tf77 tf78 tf79 tf80 tf81 tf82 tf83 tf84 tf85 tf86 tf87 tf88 tf89 tf90 tf91 tf92 tf93 tf94 tf95 tf96 tf97 tf98 tf99 tf100 tf101 tf102 tf103 tf104 tf105 tf106 tf107 tf108 tf109 tf110 tf111 tf112 tf113 tf114 tf115 tf116 tf117 tf118 tf119 tf120 tf121 tf122 tf123 tf124 tf125 tf126 tf127 tf128 tf129 tf130 tf131 tf132 tf133 tf134 tf135 tf136 tf137 tf138 tf139 tf140 tf141 tf142 tf143 tf144 tf145 tf146 tf147 tf148 tf149 tf150 tf151 tf152 tf153 tf154 tf155 tf156 tf157 tf158 tf159 tf160 tf161 tf162 tf163 tf164 tf165 tf166 tf167 tf168 tf169 tf170 tf171 tf172 tf173 tf174 tf175 tf176 tf177 tf178 tf179 tf180 tf181 tf182 tf183 tf184 tf185 tf186 tf187 tf188 tf189 tf190 tf191 tf192 tf193 tf194 tf195 tf196 tf197 tf198 tf199 tf200 tf201 tf202 tf203 tf204 tf205 tf206 tf207 tf208 tf209 tf210 tf211 tf212 tf213 tf214 tf215 tf216 tf217 tf218 tf219 tf220 tf221 tf222 tf223 tf224 tf225 tf226 tf227 tf228 tf229 tf230 tf231 tf232 tf233 tf234 tf235 tf236 tf237 tf238 tf239 tf240 tf241 tf242 tf243 tf244 tf245 tf246 tf247 tf248 tf249 tf250 tf251 tf252
attribute [local go_sem] List.length_map rowAt_n nrow rowAt_t trow rowAt_i irow
attribute [local go_sem] pl_getF pl_lookF pl_lookF' foldI
attribute [local go_sem] ce_get ceV
theorem alk_w (a b : List Nd) (t u : Tok) (x : Int) (ha : a.length ≤ 1000000) (hb : b.length ≤ 1000000) : PCall Try.prog (.func 50) [.sl 5 (a.map nrow) t, .sl 5 (b.map nrow) u, .int .i64 x] (.bool (alkB (chA a x) (chA b x))) := by
  refine PCall.le ?_
  refine fn_ Try.func50 (by rfl) (by rfl) (rs := [.tmp 6]) (by rfl) (by simp [Try.f50]) ?_
  refine sq ?_
  refine rg [0, 1, 2] [] [] (by kernel_rfl) ?_; intro κ ξ hκ hξ
  try simp (config := { decide := true }) only [go_sem, Nat.reduceMul, Nat.reduceAdd, Nat.reduceBEq, cond_false]
  repeat with_reducible refine And.intro (by first | assumption | omega | (simp; done) | (simp; omega) | (intro hg; simp (config := { decide := true }) only [go_sem, hg]; done) | (intro hg; simp (config := { decide := true }) only [go_sem, hg]; omega)) ?_
  refine hκ _ _ ?_; clear hκ hξ ξ κ
  refine sq ?_
  refine rg [7, 8] [] [] (by kernel_rfl) ?_; intro κ ξ hκ hξ
  try simp (config := { decide := true }) only [go_sem, Nat.reduceMul, Nat.reduceAdd, Nat.reduceBEq, cond_false]
  repeat with_reducible refine And.intro (by first | assumption | omega | (simp; done) | (simp; omega) | (intro hg; simp (config := { decide := true }) only [go_sem, hg]; done) | (intro hg; simp (config := { decide := true }) only [go_sem, hg]; omega)) ?_
  refine callR (chi_w a t x ha) fun ⟨m1, E⟩ hE => ?_
  try simp (config := { decide := true }) only [go_sem, Nat.reduceMul, Nat.reduceAdd, Nat.reduceBEq, cond_false]
  repeat with_reducible refine And.intro (by first | assumption | omega | (simp; done) | (simp; omega) | (intro hg; simp (config := { decide := true }) only [go_sem, hg]; done) | (intro hg; simp (config := { decide := true }) only [go_sem, hg]; omega)) ?_
  refine callR (RCall.nodup (RCall.frame (chi_w b u x hb) _)) fun ⟨m2, F⟩ hF => ?_
  try simp (config := { decide := true }) only [go_sem, Nat.reduceMul, Nat.reduceAdd, Nat.reduceBEq, cond_false]
  repeat with_reducible refine And.intro (by first | assumption | omega | (simp; done) | (simp; omega) | (intro hg; simp (config := { decide := true }) only [go_sem, hg]; done) | (intro hg; simp (config := { decide := true }) only [go_sem, hg]; omega)) ?_
  refine hκ _ _ ?_; clear hκ hξ ξ κ
  simp only at hE hF
  obtain ⟨hF, hn⟩ := hF
  have hm12 : ¬ m1 = m2 := by
    have h2 : (m2 :: [m1]).Nodup := hn
    simp at h2
    exact fun e => h2 e.symm
  have hEl : E.length ≤ a.length := by have := num_chM a x a.length; rw [show chM a x a.length = E.map CE.er from hE.symm, List.length_map] at this; exact this
  have hFl : F.length ≤ b.length := by have := num_chM b x b.length; rw [show chM b x b.length = F.map CE.er from hF.symm, List.length_map] at this; exact this
  refine sq ?_
  refine sq ?_
  refine rgS [7, 8, 18] (by kernel_rfl) ?_; intro κ ξ hκ hξ
  refine vS_q trivial ?_
  refine vS_range (m := m1) (es := ceE E) (by rfl) (by simp [Store.get, hm12]) (by rw [tf231]; rfl) fun it him bi hbi => ?_
  subst him
  refine vS_nil ?_
  refine hκ _ _ ?_; clear hκ hξ ξ κ
  refine weak (mk [(7, .mp it.m), (8, .mp m2), (18, .ptr bi 0)]) (EnvLe.of_l ⟨rfl, rfl, rfl, trivial⟩) (.refl _) ?_
  have hu : Store.upd [(m2, .map (ceE F)), (it.m, .map (ceE E))] it.m it.mb = [(m2, .map (ceE F)), (it.m, it.mb)] := by simp [Store.upd, hm12]
  rw [hu]
  simp only [nk_cons, not_or] at hbi
  refine bl ?_
  refine lp (α := List Nat) (fun _ => mk [(7, .mp it.m), (8, .mp m2), (18, .ptr bi 0)]) (fun pos => (bi, it.ib pos) :: (m2, .map (ceE F)) :: [(it.m, it.mb)]) (fun pos => (∀ i ∈ pos, i < E.length) ∧ ∀ i ∈ pos, (cat1 E i).2.1 = vlk (chA b x) (cat1 E i).1) (fun pos => left E.length pos) [] ⟨⟨by simp, by simp⟩, EnvLe.refl _, .refl _⟩ ?_
  rintro pos ⟨hp1, hp2⟩
  refine jn (α := Option Nat) (fun o => mk [(7, .mp it.m), (8, .mp m2), (18, .ptr bi 0), (20, .bool o.isSome)]) (fun o => (bi, it.ib (seenI pos o)) :: (m2, .map (ceE F)) :: [(it.m, it.mb)]) (fun o => match o with | none => ∀ i, i < E.length → i ∈ pos | some i => i < E.length ∧ i ∉ pos) ?_ ?_
  · refine rgS [7, 8, 18, 20] (by kernel_rfl) ?_; intro κ ξ hκ hξ
    refine vS_next it pos (by rfl) (by simp [Store.get]) (by simp [Store.get, hbi, hm12]) (by rw [ceE_len]; exact hp1) (fun hall => ?_) (fun i hi hnp => ?_)
    · refine vS_q trivial ?_
      refine vS_nil ?_
      refine hκ _ _ ?_; clear hκ hξ ξ κ
      exact ⟨none, by rw [ceE_len] at hall; exact hall, EnvLe.of_l ⟨rfl, rfl, rfl, rfl, trivial⟩, .refl _⟩
    · refine vS_q trivial ?_
      refine vS_nil ?_
      refine hκ _ _ ?_; clear hκ hξ ξ κ
      refine ⟨some i, ⟨by rw [ceE_len] at hi; exact hi, hnp⟩, EnvLe.of_l ⟨rfl, rfl, rfl, rfl, trivial⟩, ?_⟩
      simp only [Store.upd, if_true, seenI]
      exact .refl _
  · rintro o ho
    refine sq ?_
    refine cd (by rfl) (fun c0 => ?_) (fun c0 => ?_)
    · obtain ⟨i, rfl⟩ := Option.isSome_iff_exists.1 c0
      simp only at ho
      refine sk ?_
      refine bl ?_
      refine sq ?_
      refine rgS [7, 8, 9, 10, 18] (by kernel_rfl) ?_; intro κ ξ hκ hξ
      refine vS_entry it pos (by rfl) (by simp only [Store.get, if_true]; rfl) (by simp [Store.get, hbi, hm12]) (by rw [ceE_len]; exact ho.1) ?_
      rw [ce_getD ho.1]
      refine vS_q trivial ?_
      refine vS_q trivial ?_
      refine vS_q trivial ?_
      refine vS_q trivial ?_
      refine vS_nil ?_
      refine hκ _ _ ?_; clear hκ hξ ξ κ
      refine weak (mk [(7, .mp it.m), (8, .mp m2), (9, .int .i64 (cat1 E i).1), (10, ceV (cat1 E i)), (18, .ptr bi 0)]) (EnvLe.of_l ⟨rfl, rfl, rfl, rfl, rfl, trivial⟩) (.refl _) ?_
      refine sq ?_
      refine rg [7, 8, 18, 29] [] [] (by kernel_rfl) ?_; intro κ ξ hκ hξ
      try simp (config := { decide := true }) only [go_sem, Nat.reduceMul, Nat.reduceAdd, Nat.reduceBEq, cond_false, c0, hbi]
      repeat with_reducible refine And.intro (by first | assumption | omega | (simp; done) | (simp; omega) | (intro hg; simp (config := { decide := true }) only [go_sem, hg]; done) | (intro hg; simp (config := { decide := true }) only [go_sem, hg]; omega)) ?_
      refine callP (d := .bool (decide ((cat1 E i).2.1 = vlk (F.map CE.er) (cat1 E i).1))) ?_ ?_
      · exact sameL_w _ _ _ F
      try simp (config := { decide := true }) only [go_sem, Nat.reduceMul, Nat.reduceAdd, Nat.reduceBEq, cond_false, c0, hbi]
      repeat with_reducible refine And.intro (by first | assumption | omega | (simp; done) | (simp; omega) | (intro hg; simp (config := { decide := true }) only [go_sem, hg]; done) | (intro hg; simp (config := { decide := true }) only [go_sem, hg]; omega)) ?_
      refine hκ _ _ ?_; clear hκ hξ ξ κ
      refine cd (by rfl) (fun c1 => ?_) (fun c1 => ?_)
      · skip
        refine sq ?_
        refine rg [6] [] [] (by kernel_rfl) ?_; intro κ ξ hκ hξ
        try simp (config := { decide := true }) only [go_sem, Nat.reduceMul, Nat.reduceAdd, Nat.reduceBEq, cond_false, c0, hbi, c1]
        repeat with_reducible refine And.intro (by first | assumption | omega | (simp; done) | (simp; omega) | (intro hg; simp (config := { decide := true }) only [go_sem, hg]; done) | (intro hg; simp (config := { decide := true }) only [go_sem, hg]; omega)) ?_
        refine hκ _ _ ?_; clear hκ hξ ξ κ
        refine rt ?_
        refine retE ?_
        simp (config := { decide := true }) only [go_sem, resD, resV, c0, hbi, c1]
        rw [alk_false hE ho.1 (by simpa [hF] using c1)]
      · skip
        refine sk ?_
        refine ⟨pos ++ [i], ⟨⟨?_, ?_⟩, left_lt ho.1 ho.2⟩, EnvLe.of_l ⟨rfl, rfl, rfl, trivial⟩, .refl _⟩
        · intro j hj
          rcases List.mem_append.1 hj with h | h
          · exact hp1 j h
          · rw [List.mem_singleton.1 h]; exact ho.1
        · intro j hj
          rcases List.mem_append.1 hj with h | h
          · exact hp2 j h
          · rw [List.mem_singleton.1 h]; exact (by simpa [hF] using c1)
    · have hon : o = none := by cases o with
        | none => rfl
        | some i => cases c0
      subst hon
      simp only at ho
      refine ex ?_
      refine sq ?_
      refine rgS [6] (by kernel_rfl) ?_; intro κ ξ hκ hξ
      refine vS_q trivial ?_
      refine vS_lenI (TT := 90) it rfl (by rfl) (by simp [Store.get, hbi, hm12]) rfl (by rw [tf231]; rfl) (by rw [ceE_len]; unfold lim; omega) ?_
      refine vS_q trivial ?_
      refine vS_lenM (TT := 90) rfl (by rfl) (by simp [Store.get, hbi]; rfl) rfl (by rw [tf231]; rfl) (by rw [ceE_len]; unfold lim; omega) ?_
      refine vS_q ⟨rfl, trivial⟩ ?_
      refine vS_q trivial ?_
      refine vS_nil ?_
      refine hκ _ _ ?_; clear hκ hξ ξ κ
      refine weak (mk [(6, .bool (decide ((E.length : Int) = F.length)))]) (EnvLe.of_l ⟨by rw [← ceE_len E, ← ceE_len F]; rfl, trivial⟩) (.refl _) ?_
      refine rt ?_
      refine retE ?_
      simp (config := { decide := true }) only [go_sem, resD, resV, c0]
      rw [alk_true hE hF fun i hi => hp2 i (ho i hi)]

end Go.Proofs.Ytgccnkihonmlbaa

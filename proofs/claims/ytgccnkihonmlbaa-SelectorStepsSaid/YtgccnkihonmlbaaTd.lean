/- The walk of the law of steps of selectors. Printed by a tool of our own. -/
import Derived.Test.YtgccnkihonmlbaaTc
import Derived.Test.YtgccnkihonmlbaaSq
namespace Go.Proofs.Ytgccnkihonmlbaa
open Go Go.RowKit
set_option linter.unusedSimpArgs false
set_option linter.unusedVariables false
set_option maxHeartbeats 4000000
set_option maxRecDepth 100000
theorem napp_nil {P : Program} {σ : Store} {ts : Array TypeId} {T U V : TypeId} {g : Bool} {sz by_ sz0 : Nat} {z : List D} {tk : Tok} {K : D → Store → Prop}
    (hT : ts[0]? = some T) (hV : ts[1]? = some V) (hV' : (sle P V).isSome = true) (hs : sle P T = some (U, g, sz)) (hy : eby P T = some by_) (hz : zc P U = some z)
    (hside : z.length = sz ∧ 0 < sz ∧ 0 < by_) (hK : K (.sl sz0 [] .full) σ) : napp P σ ts (.sl sz0 [] .full) (.sl sz [] tk) K := by
  obtain ⟨hz1, h0, hb0⟩ := hside
  unfold napp
  simp only [hT, Option.bind_some, hs, hy, rowsOf]
  exact ⟨⟨⟨z, hz, hz1⟩, ⟨V, hV, .inl hV'⟩, h0, hb0, by simp, by simp, by simp, by simp [capB]⟩, fun _ => hK, fun e => absurd rfl e⟩
attribute [local go_sem ↓] vo_nil vK_eq vo_q vo_g vo_n vo_c vd_nil dK_eq eK_eq vd_q vd_g vd_n vd_st vd_c cgs_call cgs_builtin
attribute [local go_sem] Ext_refl Ext_cons
attribute [local go_sem] quiet_move quiet_assign quiet_pick quiet_binOp quiet_unOp quiet_convert quiet_field quiet_fieldAddr quiet_indexAddr quiet_index quiet_load quiet_lookup quiet_extract quiet_build quiet_makeInterface quiet_makeFunc quiet_slice quiet_nilCheck quiet_alloc isCall_alloc quiet_box isCall_box quiet_buildSlice isCall_buildSlice quiet_store isCall_store quiet_range isCall_range quiet_next isCall_next quiet_makeSlice isCall_makeSlice quiet_panic isCall_panic quiet_len quiet_cap quiet_min quiet_max quiet_append isCall_append quiet_copy isCall_copy quiet_delete isCall_delete nqk_alloc nqk_box nqk_buildSlice nqk_range nqk_next nqk_makeSlice nqk_panic nqk_makeMap nqk_entry nqk_append nqk_copy nqk_delete isSt_alloc isSt_box isSt_buildSlice isSt_range isSt_next isSt_makeSlice isSt_panic isSt_makeMap isSt_entry isSt_store isSt_mapUpdate isSt_insert isSt_append isSt_copy isSt_delete quiet_makeMap isCall_makeMap quiet_mapUpdate isCall_mapUpdate quiet_insert isCall_insert
attribute [local go_sem] argEnv qev opd put_some put_none set_at mk_cons mk_nil prune_eq D.ofV ofC_int ofC_nil ofC_str ofC_nilmap ofC_nilfunc ofC_nilptr true_and ofC_bool bop isSh ibop Bool.false_eq_true if_false if_true and_self D.core D.cg qpick isB bof gval look Option.bind_some opc cgs Op.operands List.all_cons List.all_nil Bool.and_true and_true true_imp_iff imp_self false_imp_iff beq_true beq_false beq_iff_eq decide_eq_true_eq List.map_cons List.map_nil Bool.not_eq_true' decide_eq_false_iff_not gof gq gev cond_some Option.isSome_some Bool.or_eq_true Bool.and_eq_true Bool.or_eq_false_iff Bool.and_eq_false_iff Bool.not_eq_true Bool.not_eq_false Bool.not_eq_false' ne_eq implies_true forall_const Bool.cond_true_left Bool.cond_false_right not_false_eq_true not_true_eq_false Int.toNat_natCast Int.toNat_zero
attribute [local go_sem] qbuiltin qlook ments foldI mget mput keqD keyOK lookD_s lookD_n lookD_fs lookD_fn nput agop deqF deq1 nappZ cond_true cond_false Option.getD_some Option.getD_none Option.isSome_none ite_self qindex qslice qconv qextract qfield qfaddr qiaddr qload quop qiface qbuild qnil ldC ldD ob List.drop_succ_cons take_mapr drop_mapr List.drop_zero List.take_succ_cons List.take_zero List.length_cons List.length_nil List.getElem?_cons_zero List.getElem?_cons_succ Option.map_some Option.map_none List.head?_cons
attribute [local go_sem] nev isImm List.contains_cons List.contains_nil Bool.or_false Bool.or_true D.flat D.cellsOf D.isCell Bool.or_self Bool.and_self szOf nstore Store.get Store.upd putCells nk_cons not_or FZ frzE_mk frzL inL frz Store.del or_false boxCells List.headD_cons List.headD_nil List.nil_append List.append_nil List.cons_append List.drop_nil false_and and_false false_or true_or or_true Bool.false_and Bool.true_and Bool.false_or Bool.true_or Bool.and_false setPs lim_eq chunk zrep pls_eq plsF fillD resAll shop sbop bbop decide_true decide_false Bool.not_true Bool.not_false eq_self
attribute [local go_sem] tf0 tf1 tf2 tf3 tf4 tf5 tf6 tf7 tf8 tf9 tf10 tf11 tf12 tf13 tf14 tf15 tf16 tf17 tf18 tf19 tf20 tf21 tf22 tf23 tf24 tf25 tf26 tf27 tf28 tf29 tf30 tf31 tf32 tf33 tf34 tf35 tf36 tf37 tf38 tf39 tf40 tf41 tf42 tf43 tf44 tf45 tf46 tf47 tf48 tf49 tf50 tf51 tf52 tf53 tf54 tf55 tf56 tf57 tf58 tf59 tf60 tf61 tf62 tf63 tf64 tf65 tf66 tf67 tf68 tf69 tf70 tf71 tf72 tf73 tf74 tf75 tf76 tf77 tf78 tf79 tf80 tf81 tf82 tf83 tf84 tf85 tf86 tf87 tf88 tf89 tf90 tf91 tf92 tf93 tf94 tf95 tf96 tf97 tf98 tf99 tf100 tf101 tf102 tf103 tf104 tf105 tf106 tf107 tf108 tf109 tf110 tf111 tf112 tf113 tf114 tf115 tf116 tf117 tf118 tf119 tf120 tf121 tf122 tf123 tf124 tf125 tf126 tf127 tf128 tf129 tf130 tf131 tf132 tf133 tf134 tf135 tf136 tf137 tf138 tf139 tf140 tf141 tf142 tf143 tf144 tf145 tf146 tf147 tf148 tf149 tf150 tf151 tf152 tf153 tf154 tf155 tf156 tf157 tf158 tf159 tf160 tf161 tf162 tf163 tf164 tf165 tf166 tf167 tf168 tf169 tf170 tf171 tf172 tf173 tf174 tf175 tf176 tf177 tf178 tf179 tf180 tf181 tf182 tf183 tf184 tf185 tf186 tf187 tf188 tf189 tf190 tf191 tf192 tf193 tf194 tf195 tf196 tf197 tf198 tf199 tf200 tf201 tf202 tf203 tf204 tf205 tf206 tf207 tf208 tf209 tf210 tf211 tf212 tf213 tf214 tf215 tf216 tf217 tf218 tf219 tf220 tf221 tf222 tf223 tf224 tf225 tf226 tf227 tf228 tf229 tf230 tf231 tf232 tf233 tf234 tf235 tf236 tf237 tf238 tf239 tf240 tf241 tf242 tf243 tf244 tf245 tf246 tf247 tf248 tf249 tf250 tf251 tf252
attribute [local go_sem] List.length_map rowAt_n nrow rowAt_t trow rowAt_i irow
attribute [local go_sem] for_put for_put' for_look for_look'
theorem law8_w (l : List Nd) (ts : List Ts) (T : Ts) (hsz : ts.length ≤ 4398046510976) : PCall Try.prog (.func 8) [.sl 5 (l.map nrow) .no, .sl 4 (ts.map trow) .no, .ag (trow T)] (.bool true) := by
  refine PCall.ok fun hok => ?_
  simp only [okAll, D.ok, okRows, and_true, true_and, lim_eq, inR_i64', inR_i32', inR_u8', inR_u16', inR_u64'] at hok
  obtain ⟨-, ⟨hts0, -⟩, -⟩ := hok; rw [List.length_map] at hts0
  refine PCall.le ?_
  refine fn_ Try.func8 (by rfl) (by rfl) (rs := [.tmp 6]) (by rfl) (by simp [Try.f8]) ?_
  refine sq ?_
  refine rg [0, 1, 5] [5] [] (by kernel_rfl) ?_; intro κ ξ hκ hξ
  try simp (config := { decide := true }) only [go_sem, Nat.reduceMul, Nat.reduceAdd, Nat.reduceBEq, cond_false]
  repeat with_reducible refine And.intro (by first | assumption | omega | (simp; done) | (simp; omega) | (intro hg; simp (config := { decide := true }) only [go_sem, hg]; done) | (intro hg; simp (config := { decide := true }) only [go_sem, hg]; omega)) ?_
  refine hκ _ _ ?_; clear hκ hξ ξ κ
  refine sq ?_
  refine rg [0, 1, 5, 7] [] [] (by kernel_rfl) ?_; intro κ ξ hκ hξ
  try simp (config := { decide := true }) only [go_sem, Nat.reduceMul, Nat.reduceAdd, Nat.reduceBEq, cond_false]
  repeat with_reducible refine And.intro (by first | assumption | omega | (simp; done) | (simp; omega) | (intro hg; simp (config := { decide := true }) only [go_sem, hg]; done) | (intro hg; simp (config := { decide := true }) only [go_sem, hg]; omega)) ?_
  refine callF (head_w) ?_
  try simp (config := { decide := true }) only [go_sem, Nat.reduceMul, Nat.reduceAdd, Nat.reduceBEq, cond_false]
  repeat with_reducible refine And.intro (by first | assumption | omega | (simp; done) | (simp; omega) | (intro hg; simp (config := { decide := true }) only [go_sem, hg]; done) | (intro hg; simp (config := { decide := true }) only [go_sem, hg]; omega)) ?_
  refine hκ _ _ ?_; clear hκ hξ ξ κ
  refine jn (α := Unit) (fun _ => mk [(0, .sl 5 (l.map nrow) .no), (1, .sl 4 (ts.map trow) .no), (5, .el (trow T)), (7, .bool true), (8, .sl 4 ((ts ++ [T]).map trow) .no)]) (fun _ => []) (fun _ => True) ?_ ?_
  · by_cases hts : ts = []
    · subst hts
      refine rgt [0, 1, 5, 7, 8] [] [] [] [1, 3] (.br 0 [] (.br 2 [4, 5, 6] .fin 4 [2, 5, 6] .fin) 4 [0, 2, 5, 6] .fin) (by kernel_rfl) (by kernel_rfl) (Pk.cons rfl (Pk.cons rfl (Pk.nil))) ?_; intro κ ξ hκ hξ
      try simp (config := { decide := true }) only [go_sem, Nat.reduceMul, Nat.reduceAdd, Nat.reduceBEq, cond_false, append_mapr, apD, apS, List.nil_append, true_and]
      repeat with_reducible refine And.intro (by first | assumption | omega | (simp; done) | (simp; omega) | (intro hg; simp (config := { decide := true }) only [go_sem, hg]; done) | (intro hg; simp (config := { decide := true }) only [go_sem, hg]; omega)) ?_
      refine SET_br (Pk.cons rfl (Pk.nil)) (Pk.cons rfl (Pk.cons rfl (Pk.cons rfl (Pk.cons rfl (Pk.cons rfl (Pk.nil)))))) ?_ ?_
      · try simp (config := { decide := true }) only [go_sem, Nat.reduceMul, Nat.reduceAdd, Nat.reduceBEq, cond_false, append_mapr, apD, apS, List.nil_append, true_and]
        repeat with_reducible refine And.intro (by first | assumption | omega | (simp; done) | (simp; omega) | (intro hg; simp (config := { decide := true }) only [go_sem, hg]; done) | (intro hg; simp (config := { decide := true }) only [go_sem, hg]; omega)) ?_
        refine SET_br (Pk.cons rfl (Pk.cons rfl (Pk.cons rfl (Pk.cons rfl (Pk.nil))))) (Pk.cons rfl (Pk.cons rfl (Pk.cons rfl (Pk.cons rfl (Pk.nil))))) ?_ ?_
        · try simp (config := { decide := true }) only [go_sem, Nat.reduceMul, Nat.reduceAdd, Nat.reduceBEq, cond_false, append_mapr, apD, apS, List.nil_append, true_and]
          repeat with_reducible refine And.intro (by first | assumption | omega | (simp; done) | (simp; omega) | (intro hg; simp (config := { decide := true }) only [go_sem, hg]; done) | (intro hg; simp (config := { decide := true }) only [go_sem, hg]; omega)) ?_
          refine napp_nil rfl rfl (by simp (config := { decide := true }) only [go_sem, Option.isSome_some]) tf96 tf97 tf149 ⟨rfl, by decide, by decide⟩ ?_
          try simp (config := { decide := true }) only [go_sem, Nat.reduceMul, Nat.reduceAdd, Nat.reduceBEq, cond_false, append_mapr, apD, apS, List.nil_append, true_and]
          repeat with_reducible refine And.intro (by first | assumption | omega | (simp; done) | (simp; omega) | (intro hg; simp (config := { decide := true }) only [go_sem, hg]; done) | (intro hg; simp (config := { decide := true }) only [go_sem, hg]; omega)) ?_
          refine napp_of rfl rfl (by simp (config := { decide := true }) only [go_sem, Option.isSome_some]) tf96 tf97 tf149 (by refine ⟨⟨rfl, by decide, by decide⟩, by simp [trow, D.isCell], by simp, ?_⟩; simp [capB] <;> omega) ?_
          intro b24 c24 hb24
          try simp (config := { decide := true }) only [go_sem, Nat.reduceMul, Nat.reduceAdd, Nat.reduceBEq, cond_false, append_mapr, apD, apS, List.nil_append, true_and, hb24, Ext_cons hb24]
          repeat with_reducible refine And.intro (by first | assumption | omega | (simp; done) | (simp; omega) | (intro hg; simp (config := { decide := true }) only [go_sem, hg]; done) | (intro hg; simp (config := { decide := true }) only [go_sem, hg]; omega)) ?_
          refine SET_fin ?_
          try simp (config := { decide := true }) only [go_sem, Nat.reduceMul, Nat.reduceAdd, Nat.reduceBEq, cond_false, append_mapr, apD, apS, List.nil_append, true_and, hb24, Ext_cons hb24]
          repeat with_reducible refine And.intro (by first | assumption | omega | (simp; done) | (simp; omega) | (intro hg; simp (config := { decide := true }) only [go_sem, hg]; done) | (intro hg; simp (config := { decide := true }) only [go_sem, hg]; omega)) ?_
          refine hκ _ _ ?_; clear hκ hξ ξ κ
          exact ⟨(), trivial, EnvLe.cons (DLe.refl _) (EnvLe.cons (DLe.refl _) (EnvLe.cons (DLe.refl _) (EnvLe.cons (DLe.refl _) (EnvLe.cons (by rw [List.map_append]; exact DLe.tok _ _ _) (EnvLe.of_eq rfl))))), List.nil_sublist _⟩
        · try simp (config := { decide := true }) only [go_sem, Nat.reduceMul, Nat.reduceAdd, Nat.reduceBEq, cond_false, append_mapr, apD, apS, List.nil_append, true_and]
          repeat with_reducible refine And.intro (by first | assumption | omega | (simp; done) | (simp; omega) | (intro hg; simp (config := { decide := true }) only [go_sem, hg]; done) | (intro hg; simp (config := { decide := true }) only [go_sem, hg]; omega)) ?_
          refine napp_nil rfl rfl (by simp (config := { decide := true }) only [go_sem, Option.isSome_some]) tf96 tf97 tf149 ⟨rfl, by decide, by decide⟩ ?_
          try simp (config := { decide := true }) only [go_sem, Nat.reduceMul, Nat.reduceAdd, Nat.reduceBEq, cond_false, append_mapr, apD, apS, List.nil_append, true_and]
          repeat with_reducible refine And.intro (by first | assumption | omega | (simp; done) | (simp; omega) | (intro hg; simp (config := { decide := true }) only [go_sem, hg]; done) | (intro hg; simp (config := { decide := true }) only [go_sem, hg]; omega)) ?_
          refine napp_of rfl rfl (by simp (config := { decide := true }) only [go_sem, Option.isSome_some]) tf96 tf97 tf149 (by refine ⟨⟨rfl, by decide, by decide⟩, by simp [trow, D.isCell], by simp, ?_⟩; simp [capB] <;> omega) ?_
          intro b24 c24 hb24
          try simp (config := { decide := true }) only [go_sem, Nat.reduceMul, Nat.reduceAdd, Nat.reduceBEq, cond_false, append_mapr, apD, apS, List.nil_append, true_and, hb24, Ext_cons hb24]
          repeat with_reducible refine And.intro (by first | assumption | omega | (simp; done) | (simp; omega) | (intro hg; simp (config := { decide := true }) only [go_sem, hg]; done) | (intro hg; simp (config := { decide := true }) only [go_sem, hg]; omega)) ?_
          refine SET_fin ?_
          try simp (config := { decide := true }) only [go_sem, Nat.reduceMul, Nat.reduceAdd, Nat.reduceBEq, cond_false, append_mapr, apD, apS, List.nil_append, true_and, hb24, Ext_cons hb24]
          repeat with_reducible refine And.intro (by first | assumption | omega | (simp; done) | (simp; omega) | (intro hg; simp (config := { decide := true }) only [go_sem, hg]; done) | (intro hg; simp (config := { decide := true }) only [go_sem, hg]; omega)) ?_
          refine hκ _ _ ?_; clear hκ hξ ξ κ
          exact ⟨(), trivial, EnvLe.cons (DLe.refl _) (EnvLe.cons (DLe.refl _) (EnvLe.cons (DLe.refl _) (EnvLe.cons (DLe.refl _) (EnvLe.cons (by rw [List.map_append]; exact DLe.tok _ _ _) (EnvLe.of_eq rfl))))), List.nil_sublist _⟩
      · try simp (config := { decide := true }) only [go_sem, Nat.reduceMul, Nat.reduceAdd, Nat.reduceBEq, cond_false, append_mapr, apD, apS, List.nil_append, true_and]
        repeat with_reducible refine And.intro (by first | assumption | omega | (simp; done) | (simp; omega) | (intro hg; simp (config := { decide := true }) only [go_sem, hg]; done) | (intro hg; simp (config := { decide := true }) only [go_sem, hg]; omega)) ?_
        refine napp_nil rfl rfl (by simp (config := { decide := true }) only [go_sem, Option.isSome_some]) tf96 tf97 tf149 ⟨rfl, by decide, by decide⟩ ?_
        try simp (config := { decide := true }) only [go_sem, Nat.reduceMul, Nat.reduceAdd, Nat.reduceBEq, cond_false, append_mapr, apD, apS, List.nil_append, true_and]
        repeat with_reducible refine And.intro (by first | assumption | omega | (simp; done) | (simp; omega) | (intro hg; simp (config := { decide := true }) only [go_sem, hg]; done) | (intro hg; simp (config := { decide := true }) only [go_sem, hg]; omega)) ?_
        refine napp_of rfl rfl (by simp (config := { decide := true }) only [go_sem, Option.isSome_some]) tf96 tf97 tf149 (by refine ⟨⟨rfl, by decide, by decide⟩, by simp [trow, D.isCell], by simp, ?_⟩; simp [capB] <;> omega) ?_
        intro b24 c24 hb24
        try simp (config := { decide := true }) only [go_sem, Nat.reduceMul, Nat.reduceAdd, Nat.reduceBEq, cond_false, append_mapr, apD, apS, List.nil_append, true_and, hb24, Ext_cons hb24]
        repeat with_reducible refine And.intro (by first | assumption | omega | (simp; done) | (simp; omega) | (intro hg; simp (config := { decide := true }) only [go_sem, hg]; done) | (intro hg; simp (config := { decide := true }) only [go_sem, hg]; omega)) ?_
        refine SET_fin ?_
        try simp (config := { decide := true }) only [go_sem, Nat.reduceMul, Nat.reduceAdd, Nat.reduceBEq, cond_false, append_mapr, apD, apS, List.nil_append, true_and, hb24, Ext_cons hb24]
        repeat with_reducible refine And.intro (by first | assumption | omega | (simp; done) | (simp; omega) | (intro hg; simp (config := { decide := true }) only [go_sem, hg]; done) | (intro hg; simp (config := { decide := true }) only [go_sem, hg]; omega)) ?_
        refine hκ _ _ ?_; clear hκ hξ ξ κ
        exact ⟨(), trivial, EnvLe.cons (DLe.refl _) (EnvLe.cons (DLe.refl _) (EnvLe.cons (DLe.refl _) (EnvLe.cons (DLe.refl _) (EnvLe.cons (by rw [List.map_append]; exact DLe.tok _ _ _) (EnvLe.of_eq rfl))))), List.nil_sublist _⟩
    · have hne : ts.map trow ≠ [] := fun e => hts (List.map_eq_nil_iff.1 e)
      refine rgt [0, 1, 5, 7, 8] [] [] [] [1, 3] (.br 0 [] (.br 2 [4, 5, 6] .fin 4 [2, 5, 6] .fin) 4 [0, 2, 5, 6] .fin) (by kernel_rfl) (by kernel_rfl) (Pk.cons rfl (Pk.cons rfl (Pk.nil))) ?_; intro κ ξ hκ hξ
      try simp (config := { decide := true }) only [go_sem, Nat.reduceMul, Nat.reduceAdd, Nat.reduceBEq, cond_false, append_mapr, apD, apS, List.nil_append, true_and]
      repeat with_reducible refine And.intro (by first | assumption | omega | (simp; done) | (simp; omega) | (intro hg; simp (config := { decide := true }) only [go_sem, hg]; done) | (intro hg; simp (config := { decide := true }) only [go_sem, hg]; omega)) ?_
      refine SET_br (Pk.cons rfl (Pk.nil)) (Pk.cons rfl (Pk.cons rfl (Pk.cons rfl (Pk.cons rfl (Pk.cons rfl (Pk.nil)))))) ?_ ?_
      · try simp (config := { decide := true }) only [go_sem, Nat.reduceMul, Nat.reduceAdd, Nat.reduceBEq, cond_false, append_mapr, apD, apS, List.nil_append, true_and]
        repeat with_reducible refine And.intro (by first | assumption | omega | (simp; done) | (simp; omega) | (intro hg; simp (config := { decide := true }) only [go_sem, hg]; done) | (intro hg; simp (config := { decide := true }) only [go_sem, hg]; omega)) ?_
        refine SET_br (Pk.cons rfl (Pk.cons rfl (Pk.cons rfl (Pk.cons rfl (Pk.nil))))) (Pk.cons rfl (Pk.cons rfl (Pk.cons rfl (Pk.cons rfl (Pk.nil))))) ?_ ?_
        · try simp (config := { decide := true }) only [go_sem, Nat.reduceMul, Nat.reduceAdd, Nat.reduceBEq, cond_false, append_mapr, apD, apS, List.nil_append, true_and]
          repeat with_reducible refine And.intro (by first | assumption | omega | (simp; done) | (simp; omega) | (intro hg; simp (config := { decide := true }) only [go_sem, hg]; done) | (intro hg; simp (config := { decide := true }) only [go_sem, hg]; omega)) ?_
          refine napp_of rfl rfl (by simp (config := { decide := true }) only [go_sem, Option.isSome_some]) tf96 tf97 tf149 (by refine ⟨⟨rfl, by decide, by decide⟩, trow_all _, hne, ?_⟩; simp [capB] <;> omega) ?_
          intro b21 c21 hb21
          try simp (config := { decide := true }) only [go_sem, Nat.reduceMul, Nat.reduceAdd, Nat.reduceBEq, cond_false, append_mapr, apD, apS, List.nil_append, true_and, hb21, Ext_cons hb21]
          repeat with_reducible refine And.intro (by first | assumption | omega | (simp; done) | (simp; omega) | (intro hg; simp (config := { decide := true }) only [go_sem, hg]; done) | (intro hg; simp (config := { decide := true }) only [go_sem, hg]; omega)) ?_
          refine napp_growN (o := some (b21, c21)) (rows := ts.map trow) (ρ := []) (fun h => by cases h) (apFr_nil _) (List.length_map ..) rfl rfl (by simp (config := { decide := true }) only [go_sem, Option.isSome_some]) tf96 tf97 tf149 (by refine ⟨⟨rfl, by decide, by decide⟩, by simp [trow, D.isCell], by simp, ?_⟩; simp [capB] <;> omega) ?_
          intro b24 c24 hb24
          try simp (config := { decide := true }) only [go_sem, Nat.reduceMul, Nat.reduceAdd, Nat.reduceBEq, cond_false, append_mapr, apD, apS, List.nil_append, true_and, hb21, hb24, Ext_tail hb24]
          repeat with_reducible refine And.intro (by first | assumption | omega | (simp; done) | (simp; omega) | (intro hg; simp (config := { decide := true }) only [go_sem, hg]; done) | (intro hg; simp (config := { decide := true }) only [go_sem, hg]; omega)) ?_
          refine SET_fin ?_
          try simp (config := { decide := true }) only [go_sem, Nat.reduceMul, Nat.reduceAdd, Nat.reduceBEq, cond_false, append_mapr, apD, apS, List.nil_append, true_and, hb21, hb24, Ext_tail hb24]
          repeat with_reducible refine And.intro (by first | assumption | omega | (simp; done) | (simp; omega) | (intro hg; simp (config := { decide := true }) only [go_sem, hg]; done) | (intro hg; simp (config := { decide := true }) only [go_sem, hg]; omega)) ?_
          refine hκ _ _ ?_; clear hκ hξ ξ κ
          exact ⟨(), trivial, EnvLe.cons (DLe.refl _) (EnvLe.cons (DLe.refl _) (EnvLe.cons (DLe.refl _) (EnvLe.cons (DLe.refl _) (EnvLe.cons (by rw [List.map_append]; exact DLe.tok _ _ _) (EnvLe.of_eq rfl))))), List.nil_sublist _⟩
        · try simp (config := { decide := true }) only [go_sem, Nat.reduceMul, Nat.reduceAdd, Nat.reduceBEq, cond_false, append_mapr, apD, apS, List.nil_append, true_and]
          repeat with_reducible refine And.intro (by first | assumption | omega | (simp; done) | (simp; omega) | (intro hg; simp (config := { decide := true }) only [go_sem, hg]; done) | (intro hg; simp (config := { decide := true }) only [go_sem, hg]; omega)) ?_
          refine napp_of rfl rfl (by simp (config := { decide := true }) only [go_sem, Option.isSome_some]) tf96 tf97 tf149 (by refine ⟨⟨rfl, by decide, by decide⟩, trow_all _, hne, ?_⟩; simp [capB] <;> omega) ?_
          intro b21 c21 hb21
          try simp (config := { decide := true }) only [go_sem, Nat.reduceMul, Nat.reduceAdd, Nat.reduceBEq, cond_false, append_mapr, apD, apS, List.nil_append, true_and, hb21, Ext_cons hb21]
          repeat with_reducible refine And.intro (by first | assumption | omega | (simp; done) | (simp; omega) | (intro hg; simp (config := { decide := true }) only [go_sem, hg]; done) | (intro hg; simp (config := { decide := true }) only [go_sem, hg]; omega)) ?_
          refine napp_growN (o := some (b21, c21)) (rows := ts.map trow) (ρ := []) (fun h => by cases h) (apFr_nil _) (List.length_map ..) rfl rfl (by simp (config := { decide := true }) only [go_sem, Option.isSome_some]) tf96 tf97 tf149 (by refine ⟨⟨rfl, by decide, by decide⟩, by simp [trow, D.isCell], by simp, ?_⟩; simp [capB] <;> omega) ?_
          intro b24 c24 hb24
          try simp (config := { decide := true }) only [go_sem, Nat.reduceMul, Nat.reduceAdd, Nat.reduceBEq, cond_false, append_mapr, apD, apS, List.nil_append, true_and, hb21, hb24, Ext_tail hb24]
          repeat with_reducible refine And.intro (by first | assumption | omega | (simp; done) | (simp; omega) | (intro hg; simp (config := { decide := true }) only [go_sem, hg]; done) | (intro hg; simp (config := { decide := true }) only [go_sem, hg]; omega)) ?_
          refine SET_fin ?_
          try simp (config := { decide := true }) only [go_sem, Nat.reduceMul, Nat.reduceAdd, Nat.reduceBEq, cond_false, append_mapr, apD, apS, List.nil_append, true_and, hb21, hb24, Ext_tail hb24]
          repeat with_reducible refine And.intro (by first | assumption | omega | (simp; done) | (simp; omega) | (intro hg; simp (config := { decide := true }) only [go_sem, hg]; done) | (intro hg; simp (config := { decide := true }) only [go_sem, hg]; omega)) ?_
          refine hκ _ _ ?_; clear hκ hξ ξ κ
          exact ⟨(), trivial, EnvLe.cons (DLe.refl _) (EnvLe.cons (DLe.refl _) (EnvLe.cons (DLe.refl _) (EnvLe.cons (DLe.refl _) (EnvLe.cons (by rw [List.map_append]; exact DLe.tok _ _ _) (EnvLe.of_eq rfl))))), List.nil_sublist _⟩
      · try simp (config := { decide := true }) only [go_sem, Nat.reduceMul, Nat.reduceAdd, Nat.reduceBEq, cond_false, append_mapr, apD, apS, List.nil_append, true_and]
        repeat with_reducible refine And.intro (by first | assumption | omega | (simp; done) | (simp; omega) | (intro hg; simp (config := { decide := true }) only [go_sem, hg]; done) | (intro hg; simp (config := { decide := true }) only [go_sem, hg]; omega)) ?_
        refine napp_of rfl rfl (by simp (config := { decide := true }) only [go_sem, Option.isSome_some]) tf96 tf97 tf149 (by refine ⟨⟨rfl, by decide, by decide⟩, trow_all _, hne, ?_⟩; simp [capB] <;> omega) ?_
        intro b21 c21 hb21
        try simp (config := { decide := true }) only [go_sem, Nat.reduceMul, Nat.reduceAdd, Nat.reduceBEq, cond_false, append_mapr, apD, apS, List.nil_append, true_and, hb21, Ext_cons hb21]
        repeat with_reducible refine And.intro (by first | assumption | omega | (simp; done) | (simp; omega) | (intro hg; simp (config := { decide := true }) only [go_sem, hg]; done) | (intro hg; simp (config := { decide := true }) only [go_sem, hg]; omega)) ?_
        refine napp_growN (o := some (b21, c21)) (rows := ts.map trow) (ρ := []) (fun h => by cases h) (apFr_nil _) (List.length_map ..) rfl rfl (by simp (config := { decide := true }) only [go_sem, Option.isSome_some]) tf96 tf97 tf149 (by refine ⟨⟨rfl, by decide, by decide⟩, by simp [trow, D.isCell], by simp, ?_⟩; simp [capB] <;> omega) ?_
        intro b24 c24 hb24
        try simp (config := { decide := true }) only [go_sem, Nat.reduceMul, Nat.reduceAdd, Nat.reduceBEq, cond_false, append_mapr, apD, apS, List.nil_append, true_and, hb21, hb24, Ext_tail hb24]
        repeat with_reducible refine And.intro (by first | assumption | omega | (simp; done) | (simp; omega) | (intro hg; simp (config := { decide := true }) only [go_sem, hg]; done) | (intro hg; simp (config := { decide := true }) only [go_sem, hg]; omega)) ?_
        refine SET_fin ?_
        try simp (config := { decide := true }) only [go_sem, Nat.reduceMul, Nat.reduceAdd, Nat.reduceBEq, cond_false, append_mapr, apD, apS, List.nil_append, true_and, hb21, hb24, Ext_tail hb24]
        repeat with_reducible refine And.intro (by first | assumption | omega | (simp; done) | (simp; omega) | (intro hg; simp (config := { decide := true }) only [go_sem, hg]; done) | (intro hg; simp (config := { decide := true }) only [go_sem, hg]; omega)) ?_
        refine hκ _ _ ?_; clear hκ hξ ξ κ
        exact ⟨(), trivial, EnvLe.cons (DLe.refl _) (EnvLe.cons (DLe.refl _) (EnvLe.cons (DLe.refl _) (EnvLe.cons (DLe.refl _) (EnvLe.cons (by rw [List.map_append]; exact DLe.tok _ _ _) (EnvLe.of_eq rfl))))), List.nil_sublist _⟩
  · rintro _ _
    refine sq ?_
    refine sq ?_
    refine rg [0, 1, 5, 7, 8, 33] [] [(4, 29)] (by kernel_rfl) ?_; intro κ ξ hκ hξ
    try simp (config := { decide := true }) only [go_sem, Nat.reduceMul, Nat.reduceAdd, Nat.reduceBEq, cond_false]
    repeat with_reducible refine And.intro (by first | assumption | omega | (simp; done) | (simp; omega) | (intro hg; simp (config := { decide := true }) only [go_sem, hg]; done) | (intro hg; simp (config := { decide := true }) only [go_sem, hg]; omega)) ?_
    refine callF (usable_w _ _ _ _) ?_
    try simp (config := { decide := true }) only [go_sem, Nat.reduceMul, Nat.reduceAdd, Nat.reduceBEq, cond_false]
    repeat with_reducible refine And.intro (by first | assumption | omega | (simp; done) | (simp; omega) | (intro hg; simp (config := { decide := true }) only [go_sem, hg]; done) | (intro hg; simp (config := { decide := true }) only [go_sem, hg]; omega)) ?_
    refine vo_gc ?_; simp (config := { decide := true }) only [go_sem]; refine gcallF (fun hg => ⟨by first | rfl | (simp (config := { decide := true }) only [go_sem, hg]; done) | exact hg | simpa using hg, rsel_w _ _⟩) ?_
    try simp (config := { decide := true }) only [go_sem, Nat.reduceMul, Nat.reduceAdd, Nat.reduceBEq, cond_false]
    repeat with_reducible refine And.intro (by first | assumption | omega | (simp; done) | (simp; omega) | (intro hg; simp (config := { decide := true }) only [go_sem, hg]; done) | (intro hg; simp (config := { decide := true }) only [go_sem, hg]; omega)) ?_
    refine hκ _ _ ?_; clear hκ hξ ξ κ
    refine cd (by rfl) (fun c0 => ?_) (fun c0 => ?_)
    · skip
      refine sq ?_
      refine rg [6] [] [] (by kernel_rfl) ?_; intro κ ξ hκ hξ
      try simp (config := { decide := true }) only [go_sem, Nat.reduceMul, Nat.reduceAdd, Nat.reduceBEq, cond_false, c0]
      repeat with_reducible refine And.intro (by first | assumption | omega | (simp; done) | (simp; omega) | (intro hg; simp (config := { decide := true }) only [go_sem, hg]; done) | (intro hg; simp (config := { decide := true }) only [go_sem, hg]; omega)) ?_
      refine hκ _ _ ?_; clear hκ hξ ξ κ
      refine rt ?_
      refine retE ?_
      simp (config := { decide := true }) only [go_sem, resD, resV, c0]
      all_goals simp
    · obtain ⟨hu, hvl⟩ : (decide (l.length ≤ 40 ∧ ts.length ≤ 20) && treB l && selB ts) = true ∧ selB (ts ++ [T]) = true := by
        revert c0
        cases (decide (l.length ≤ 40 ∧ ts.length ≤ 20) && treB l && selB ts) <;> cases selB (ts ++ [T]) <;> simp
      obtain ⟨hv1, hv2, hl40, ht20⟩ := usable_true hu
      have hT := treB_true.1 hv1
      obtain ⟨⟨ht1, ht8⟩, -, -⟩ := sel_true.1 hv2
      refine sk ?_
      refine sq ?_
      refine rg [0, 5, 7, 8, 9, 10] [] [] (by kernel_rfl) ?_; intro κ ξ hκ hξ
      try simp (config := { decide := true }) only [go_sem, Nat.reduceMul, Nat.reduceAdd, Nat.reduceBEq, cond_false, c0, hv1, hv2, hvl, Bool.and_self, Bool.true_and, if_true]
      repeat with_reducible refine And.intro (by first | assumption | omega | (simp; done) | (simp; omega) | (intro hg; simp (config := { decide := true }) only [go_sem, hg]; done) | (intro hg; simp (config := { decide := true }) only [go_sem, hg]; omega)) ?_
      refine callF (sall_w _ _ _ _) ?_
      try simp (config := { decide := true }) only [go_sem, Nat.reduceMul, Nat.reduceAdd, Nat.reduceBEq, cond_false, c0, hv1, hv2, hvl, Bool.and_self, Bool.true_and, if_true]
      repeat with_reducible refine And.intro (by first | assumption | omega | (simp; done) | (simp; omega) | (intro hg; simp (config := { decide := true }) only [go_sem, hg]; done) | (intro hg; simp (config := { decide := true }) only [go_sem, hg]; omega)) ?_
      refine hκ _ _ ?_; clear hκ hξ ξ κ
      refine sq ?_
      refine rg [0, 5, 7, 9, 10, 11, 12] [] [] (by kernel_rfl) ?_; intro κ ξ hκ hξ
      try simp (config := { decide := true }) only [go_sem, Nat.reduceMul, Nat.reduceAdd, Nat.reduceBEq, cond_false, c0, hv1, hv2, hvl, Bool.and_self, Bool.true_and, if_true]
      repeat with_reducible refine And.intro (by first | assumption | omega | (simp; done) | (simp; omega) | (intro hg; simp (config := { decide := true }) only [go_sem, hg]; done) | (intro hg; simp (config := { decide := true }) only [go_sem, hg]; omega)) ?_
      refine callF (sall_w _ _ _ _) ?_
      try simp (config := { decide := true }) only [go_sem, Nat.reduceMul, Nat.reduceAdd, Nat.reduceBEq, cond_false, c0, hv1, hv2, hvl, Bool.and_self, Bool.true_and, if_true]
      repeat with_reducible refine And.intro (by first | assumption | omega | (simp; done) | (simp; omega) | (intro hg; simp (config := { decide := true }) only [go_sem, hg]; done) | (intro hg; simp (config := { decide := true }) only [go_sem, hg]; omega)) ?_
      refine hκ _ _ ?_; clear hκ hξ ξ κ
      refine sq ?_
      refine sq ?_
      refine rg [0, 5, 7, 9, 11, 52] [] [(2, 49)] (by kernel_rfl) ?_; intro κ ξ hκ hξ
      try simp (config := { decide := true }) only [go_sem, Nat.reduceMul, Nat.reduceAdd, Nat.reduceBEq, cond_false, c0, hv1, hv2, hvl, Bool.and_self, Bool.true_and, if_true]
      repeat with_reducible refine And.intro (by first | assumption | omega | (simp; done) | (simp; omega) | (intro hg; simp (config := { decide := true }) only [go_sem, hg]; done) | (intro hg; simp (config := { decide := true }) only [go_sem, hg]; omega)) ?_
      refine hκ _ _ ?_; clear hκ hξ ξ κ
      refine cd (by rfl) (fun c1 => ?_) (fun c1 => ?_)
      · exfalso; revert c1; simp
      · skip
        refine sk ?_
        refine sq ?_
        refine sq ?_
        refine rg [0, 5, 7, 9, 11, 13] [] [] (by kernel_rfl) ?_; intro κ ξ hκ hξ
        try simp (config := { decide := true }) only [go_sem, Nat.reduceMul, Nat.reduceAdd, Nat.reduceBEq, cond_false, c0, hv1, hv2, hvl, Bool.and_self, Bool.true_and, if_true, c1]
        repeat with_reducible refine And.intro (by first | assumption | omega | (simp; done) | (simp; omega) | (intro hg; simp (config := { decide := true }) only [go_sem, hg]; done) | (intro hg; simp (config := { decide := true }) only [go_sem, hg]; omega)) ?_
        refine hκ _ _ ?_; clear hκ hξ ξ κ
        refine bl ?_
        refine lp (α := Nat) (fun i => mk [(0, .sl 5 (l.map nrow) .no), (5, .el (trow T)), (7, .bool true), (9, .sl 1 ((allP l ts l.length).map irow) .no), (11, .sl 1 ((allP l (ts ++ [T]) l.length).map irow) .no), (13, .int .i64 i)]) (fun _ => []) (fun i => i ≤ l.length) (fun i => l.length - i) 0 ⟨by omega, EnvLe.of_eq rfl, .refl _⟩ ?_
        intro i hi
        refine sq ?_
        refine sq ?_
        refine rg [0, 5, 7, 9, 11, 13, 56] [] [] (by kernel_rfl) ?_; intro κ ξ hκ hξ
        try simp (config := { decide := true }) only [go_sem, Nat.reduceMul, Nat.reduceAdd, Nat.reduceBEq, cond_false, c0, hv1, hv2, hvl, Bool.and_self, Bool.true_and, if_true, c1]
        repeat with_reducible refine And.intro (by first | assumption | omega | (simp; done) | (simp; omega) | (intro hg; simp (config := { decide := true }) only [go_sem, hg]; done) | (intro hg; simp (config := { decide := true }) only [go_sem, hg]; omega)) ?_
        refine hκ _ _ ?_; clear hκ hξ ξ κ
        refine cd (by rfl) (fun c2 => ?_) (fun c2 => ?_)
        · simp only [go_sem] at c2
          have hil : i < l.length := by omega
          have hsx := idx_self hT hil
          have hge : gerr l (nat l i).id = 0 := by
            have := fm_id (hT.form i hil)
            unfold gerr
            rw [hsx, if_pos (by rw [hv1]; simp [idB]; omega), if_pos (by omega)]
          have hpl := pathL_len l i
          have hcn := chn_len l i
          have hdp := hT.deep i hil
          have hlw : IntKind.wrap .i64 (((pathL l i).length : Int) - 1) = ((chn l i).length : Int) := by rw [w64 (by omega)]; omega
          have hlw2 : IntKind.wrap .i64 (((pathL l i).length : Int) - 2) = ((chn l i).length : Int) - 1 := by rw [w64 (by omega)]; omega
          have hst := step_w hT (ts := ts) (T := T) hil ht1
          refine sk ?_
          refine sq ?_
          refine bl ?_
          refine sq ?_
          refine rg [0, 5, 7, 9, 11, 13, 14, 15] [] [] (by kernel_rfl) ?_; intro κ ξ hκ hξ
          try simp (config := { decide := true }) only [go_sem, Nat.reduceMul, Nat.reduceAdd, Nat.reduceBEq, cond_false, c0, hv1, hv2, hvl, Bool.and_self, Bool.true_and, if_true, c1, c2, hsx, hge, Int.toNat_natCast, hlw, hlw2]
          repeat with_reducible refine And.intro (by first | assumption | omega | (simp; done) | (simp; omega) | (intro hg; simp (config := { decide := true }) only [go_sem, hg]; done) | (intro hg; simp (config := { decide := true }) only [go_sem, hg]; omega)) ?_
          refine callF (tpath_w _ _ _) ?_
          try simp (config := { decide := true }) only [go_sem, Nat.reduceMul, Nat.reduceAdd, Nat.reduceBEq, cond_false, c0, hv1, hv2, hvl, Bool.and_self, Bool.true_and, if_true, c1, c2, hsx, hge, Int.toNat_natCast, hlw, hlw2]
          repeat with_reducible refine And.intro (by first | assumption | omega | (simp; done) | (simp; omega) | (intro hg; simp (config := { decide := true }) only [go_sem, hg]; done) | (intro hg; simp (config := { decide := true }) only [go_sem, hg]; omega)) ?_
          refine hκ _ _ ?_; clear hκ hξ ξ κ
          refine sq ?_
          refine sq ?_
          refine rg [0, 5, 7, 9, 11, 13, 14, 75] [] [(2, 71)] (by kernel_rfl) ?_; intro κ ξ hκ hξ
          try simp (config := { decide := true }) only [go_sem, Nat.reduceMul, Nat.reduceAdd, Nat.reduceBEq, cond_false, c0, hv1, hv2, hvl, Bool.and_self, Bool.true_and, if_true, c1, c2, hsx, hge, Int.toNat_natCast, hlw, hlw2]
          repeat with_reducible refine And.intro (by first | assumption | omega | (simp; done) | (simp; omega) | (intro hg; simp (config := { decide := true }) only [go_sem, hg]; done) | (intro hg; simp (config := { decide := true }) only [go_sem, hg]; omega)) ?_
          refine hκ _ _ ?_; clear hκ hξ ξ κ
          refine cd (by rfl) (fun c3 => ?_) (fun c3 => ?_)
          · exfalso; revert c3; simp [hpl]; omega
          · skip
            refine sk ?_
            refine sq ?_
            refine rg [0, 5, 7, 9, 11, 13, 14, 16] [] [] (by kernel_rfl) ?_; intro κ ξ hκ hξ
            try simp (config := { decide := true }) only [go_sem, Nat.reduceMul, Nat.reduceAdd, Nat.reduceBEq, cond_false, c0, hv1, hv2, hvl, Bool.and_self, Bool.true_and, if_true, c1, c2, hsx, hge, Int.toNat_natCast, hlw, hlw2, c3]
            repeat with_reducible refine And.intro (by first | assumption | omega | (simp; done) | (simp; omega) | (intro hg; simp (config := { decide := true }) only [go_sem, hg]; done) | (intro hg; simp (config := { decide := true }) only [go_sem, hg]; omega)) ?_
            refine hκ _ _ ?_; clear hκ hξ ξ κ
            refine sq ?_
            refine sq ?_
            refine rg [0, 5, 7, 9, 11, 13, 14, 16, 17] [] [] (by kernel_rfl) ?_; intro κ ξ hκ hξ
            try simp (config := { decide := true }) only [go_sem, Nat.reduceMul, Nat.reduceAdd, Nat.reduceBEq, cond_false, c0, hv1, hv2, hvl, Bool.and_self, Bool.true_and, if_true, c1, c2, hsx, hge, Int.toNat_natCast, hlw, hlw2, c3]
            repeat with_reducible refine And.intro (by first | assumption | omega | (simp; done) | (simp; omega) | (intro hg; simp (config := { decide := true }) only [go_sem, hg]; done) | (intro hg; simp (config := { decide := true }) only [go_sem, hg]; omega)) ?_
            refine hκ _ _ ?_; clear hκ hξ ξ κ
            refine bl ?_
            refine lp (α := Nat) (fun k => mk [(0, .sl 5 (l.map nrow) .no), (5, .el (trow T)), (7, .bool true), (9, .sl 1 ((allP l ts l.length).map irow) .no), (11, .sl 1 ((allP l (ts ++ [T]) l.length).map irow) .no), (13, .int .i64 i), (14, .sl 1 ((pathL l i).map irow) .no), (16, .bool (abv l ts T i k)), (17, .int .i64 k)]) (fun _ => []) (fun k => k ≤ (chn l i).length) (fun k => (chn l i).length - k) 0 ⟨by omega, EnvLe.of_eq rfl, .refl _⟩ ?_
            intro k hk
            refine sq ?_
            refine sq ?_
            refine rg [0, 5, 7, 9, 11, 13, 14, 16, 17, 80] [] [] (by kernel_rfl) ?_; intro κ ξ hκ hξ
            try simp (config := { decide := true }) only [go_sem, Nat.reduceMul, Nat.reduceAdd, Nat.reduceBEq, cond_false, c0, hv1, hv2, hvl, Bool.and_self, Bool.true_and, if_true, c1, c2, hsx, hge, Int.toNat_natCast, hlw, hlw2, c3]
            repeat with_reducible refine And.intro (by first | assumption | omega | (simp; done) | (simp; omega) | (intro hg; simp (config := { decide := true }) only [go_sem, hg]; done) | (intro hg; simp (config := { decide := true }) only [go_sem, hg]; omega)) ?_
            refine hκ _ _ ?_; clear hκ hξ ξ κ
            refine cd (by rfl) (fun c4 => ?_) (fun c4 => ?_)
            · simp only [go_sem] at c4
              have hkp : (k : Int) < ((pathL l i).length : Int) := by omega
              refine sk ?_
              refine sq ?_
              refine bl ?_
              refine rg [0, 5, 7, 9, 11, 13, 14, 16, 17] [] [(1, 84), (8, 91), (12, 95)] (by kernel_rfl) ?_; intro κ ξ hκ hξ
              try simp (config := { decide := true }) only [go_sem, Nat.reduceMul, Nat.reduceAdd, Nat.reduceBEq, cond_false, c0, hv1, hv2, hvl, Bool.and_self, Bool.true_and, if_true, c1, c2, hsx, hge, Int.toNat_natCast, hlw, hlw2, c3, c4, hkp]
              repeat with_reducible refine And.intro (by first | assumption | omega | (simp; done) | (simp; omega) | (intro hg; simp (config := { decide := true }) only [go_sem, hg]; done) | (intro hg; simp (config := { decide := true }) only [go_sem, hg]; omega)) ?_
              refine vo_gc ?_; simp (config := { decide := true }) only [go_sem, c0, hv1, hv2, hvl, Bool.and_self, Bool.true_and, if_true, c1, c2, hsx, hge, Int.toNat_natCast, hlw, hlw2, c3, c4, hkp]; refine gcallF (fun hg => ⟨by first | rfl | (simp (config := { decide := true }) only [go_sem, hg, c0, hv1, hv2, hvl, Bool.and_self, Bool.true_and, if_true, c1, c2, hsx, hge, Int.toNat_natCast, hlw, hlw2, c3, c4, hkp]; done) | exact hg | simpa using hg, lhas_w _ _ _⟩) ?_
              try simp (config := { decide := true }) only [go_sem, Nat.reduceMul, Nat.reduceAdd, Nat.reduceBEq, cond_false, c0, hv1, hv2, hvl, Bool.and_self, Bool.true_and, if_true, c1, c2, hsx, hge, Int.toNat_natCast, hlw, hlw2, c3, c4, hkp]
              repeat with_reducible refine And.intro (by first | assumption | omega | (simp; done) | (simp; omega) | (intro hg; simp (config := { decide := true }) only [go_sem, hg]; done) | (intro hg; simp (config := { decide := true }) only [go_sem, hg]; omega)) ?_
              refine hκ _ _ ?_; clear hκ hξ ξ κ
              refine rg [0, 5, 7, 9, 11, 13, 14, 16, 17] [] [] (by kernel_rfl) ?_; intro κ ξ hκ hξ
              try simp (config := { decide := true }) only [go_sem, Nat.reduceMul, Nat.reduceAdd, Nat.reduceBEq, cond_false, c0, hv1, hv2, hvl, Bool.and_self, Bool.true_and, if_true, c1, c2, hsx, hge, Int.toNat_natCast, hlw, hlw2, c3, c4, hkp]
              repeat with_reducible refine And.intro (by first | assumption | omega | (simp; done) | (simp; omega) | (intro hg; simp (config := { decide := true }) only [go_sem, hg]; done) | (intro hg; simp (config := { decide := true }) only [go_sem, hg]; omega)) ?_
              refine hκ _ _ ?_; clear hκ hξ ξ κ
              refine ⟨k + 1, ⟨by omega, by omega⟩, EnvLe.of_eq ?_, .refl _⟩
              have hdd : decide (k + 2 = (pathL l i).length) = decide ((k : Int) = ((chn l i).length : Int) - 1) := decide_eq_decide.2 (by omega)
              rw [w64 (by omega), abv_succ, hdd]; rfl
            · simp only [go_sem] at c4
              obtain rfl : k = (chn l i).length := by omega
              refine ex ?_
              refine sq ?_
              refine rgd [0, 5, 7, 9, 11, 13, 120] [] [110, 118] [(8, 112)] (by kernel_rfl) (by kernel_rfl) ?_; intro κ ξ hκ hξ
              try simp (config := { decide := true }) only [go_sem, Nat.reduceMul, Nat.reduceAdd, Nat.reduceBEq, cond_false, c0, hv1, hv2, hvl, Bool.and_self, Bool.true_and, if_true, c1, c2, hsx, hge, Int.toNat_natCast, hlw, hlw2, c3, c4, hst]
              repeat with_reducible refine And.intro (by first | assumption | omega | (simp; done) | (simp; omega) | (intro hg; simp (config := { decide := true }) only [go_sem, hg]; done) | (intro hg; simp (config := { decide := true }) only [go_sem, hg]; omega)) ?_
              refine scallF (lhas_w _ _ _) ?_
              try simp (config := { decide := true }) only [go_sem, Nat.reduceMul, Nat.reduceAdd, Nat.reduceBEq, cond_false, c0, hv1, hv2, hvl, Bool.and_self, Bool.true_and, if_true, c1, c2, hsx, hge, Int.toNat_natCast, hlw, hlw2, c3, c4, hst]
              repeat with_reducible refine And.intro (by first | assumption | omega | (simp; done) | (simp; omega) | (intro hg; simp (config := { decide := true }) only [go_sem, hg]; done) | (intro hg; simp (config := { decide := true }) only [go_sem, hg]; omega)) ?_
              refine vd_gc (by rfl) ?_; simp (config := { decide := true }) only [go_sem, c0, hv1, hv2, hvl, Bool.and_self, Bool.true_and, if_true, c1, c2, hsx, hge, Int.toNat_natCast, hlw, hlw2, c3, c4, hst]; refine gcallF (fun hg => ⟨by first | rfl | (simp (config := { decide := true }) only [go_sem, hg, c0, hv1, hv2, hvl, Bool.and_self, Bool.true_and, if_true, c1, c2, hsx, hge, Int.toNat_natCast, hlw, hlw2, c3, c4, hst]; done) | exact hg | simpa using hg, rful_w _ _⟩) ?_
              try simp (config := { decide := true }) only [go_sem, Nat.reduceMul, Nat.reduceAdd, Nat.reduceBEq, cond_false, c0, hv1, hv2, hvl, Bool.and_self, Bool.true_and, if_true, c1, c2, hsx, hge, Int.toNat_natCast, hlw, hlw2, c3, c4, hst]
              repeat with_reducible refine And.intro (by first | assumption | omega | (simp; done) | (simp; omega) | (intro hg; simp (config := { decide := true }) only [go_sem, hg]; done) | (intro hg; simp (config := { decide := true }) only [go_sem, hg]; omega)) ?_
              refine hκ _ _ ?_; clear hκ hξ ξ κ
              refine cd (by rfl) (fun c5 => ?_) (fun c5 => ?_)
              · exfalso; revert c5; simp
              · skip
                refine sk ?_
                refine rg [0, 5, 7, 9, 11, 13] [] [] (by kernel_rfl) ?_; intro κ ξ hκ hξ
                try simp (config := { decide := true }) only [go_sem, Nat.reduceMul, Nat.reduceAdd, Nat.reduceBEq, cond_false, c0, hv1, hv2, hvl, Bool.and_self, Bool.true_and, if_true, c1, c2, hsx, hge, Int.toNat_natCast, hlw, hlw2, c3, c4, hst, c5]
                repeat with_reducible refine And.intro (by first | assumption | omega | (simp; done) | (simp; omega) | (intro hg; simp (config := { decide := true }) only [go_sem, hg]; done) | (intro hg; simp (config := { decide := true }) only [go_sem, hg]; omega)) ?_
                refine hκ _ _ ?_; clear hκ hξ ξ κ
                refine ⟨i + 1, ⟨by omega, by omega⟩, EnvLe.of_eq (by rw [w64 (by omega)]; rfl), .refl _⟩
        · skip
          refine ex ?_
          refine sq ?_
          refine rg [6] [] [] (by kernel_rfl) ?_; intro κ ξ hκ hξ
          try simp (config := { decide := true }) only [go_sem, Nat.reduceMul, Nat.reduceAdd, Nat.reduceBEq, cond_false, c0, hv1, hv2, hvl, Bool.and_self, Bool.true_and, if_true, c1, c2]
          repeat with_reducible refine And.intro (by first | assumption | omega | (simp; done) | (simp; omega) | (intro hg; simp (config := { decide := true }) only [go_sem, hg]; done) | (intro hg; simp (config := { decide := true }) only [go_sem, hg]; omega)) ?_
          refine hκ _ _ ?_; clear hκ hξ ξ κ
          refine rt ?_
          refine retE ?_
          simp (config := { decide := true }) only [go_sem, resD, resV, c0, hv1, hv2, hvl, Bool.and_self, Bool.true_and, if_true, c1, c2]
          all_goals simp

end Go.Proofs.Ytgccnkihonmlbaa

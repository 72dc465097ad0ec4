/- The walks of the reference's put, and of splits. Printed by a tool of our own. -/
import Derived.Test.YtgccnkihonmlbaaTj
namespace Go.Proofs.Ytgccnkihonmlbaa
open Go Go.RowKit
set_option linter.unusedSimpArgs false
set_option linter.unusedVariables false
set_option maxHeartbeats 4000000
set_option maxRecDepth 100000
theorem permA {α : Type} (x : α) (A B : List α) : (x :: (A ++ B)).Perm (A ++ (x :: B)) := List.perm_middle.symm
theorem permB {α : Type} (x : α) (A B : List α) : (x :: (A ++ B)).Perm (B ++ (x :: A)) := ((List.perm_append_comm (l₁ := A) (l₂ := B)).cons x).trans List.perm_middle.symm
theorem fr_ap {sz n : Nat} {o : Option (Nat × Nat)} {ρ : Store} (h : (apS sz n o ++ ρ).keys.Nodup) : apFr o ρ := by
  rintro b c rfl
  have h2 : (b :: Store.keys ρ).Nodup := h
  exact (List.nodup_cons.1 h2).1
theorem fr_mp {sz : Nat} {rows : List (List D)} {o : Option (Nat × Nat)} {ρ : Store} (h : (mpS sz rows o ++ ρ).keys.Nodup) : apFr o ρ := by
  rintro b c rfl
  have h2 : (b :: Store.keys ρ).Nodup := h
  exact (List.nodup_cons.1 h2).1
attribute [local go_sem ↓] vo_nil vK_eq vo_q vo_g vo_n vo_c vd_nil dK_eq eK_eq vd_q vd_g vd_n vd_st vd_c cgs_call cgs_builtin
attribute [local go_sem] Ext_refl Ext_cons
attribute [local go_sem] quiet_move quiet_assign quiet_pick quiet_binOp quiet_unOp quiet_convert quiet_field quiet_fieldAddr quiet_indexAddr quiet_index quiet_load quiet_lookup quiet_extract quiet_build quiet_makeInterface quiet_makeFunc quiet_slice quiet_nilCheck quiet_alloc isCall_alloc quiet_box isCall_box quiet_buildSlice isCall_buildSlice quiet_store isCall_store quiet_range isCall_range quiet_next isCall_next quiet_makeSlice isCall_makeSlice quiet_panic isCall_panic quiet_len quiet_cap quiet_min quiet_max quiet_append isCall_append quiet_copy isCall_copy quiet_delete isCall_delete nqk_alloc nqk_box nqk_buildSlice nqk_range nqk_next nqk_makeSlice nqk_panic nqk_makeMap nqk_entry nqk_append nqk_copy nqk_delete isSt_alloc isSt_box isSt_buildSlice isSt_range isSt_next isSt_makeSlice isSt_panic isSt_makeMap isSt_entry isSt_store isSt_mapUpdate isSt_insert isSt_append isSt_copy isSt_delete quiet_makeMap isCall_makeMap quiet_mapUpdate isCall_mapUpdate quiet_insert isCall_insert
attribute [local go_sem] argEnv qev opd put_some put_none set_at mk_cons mk_nil prune_eq D.ofV ofC_int ofC_nil ofC_str ofC_nilmap ofC_nilfunc ofC_nilptr true_and ofC_bool bop isSh ibop Bool.false_eq_true if_false if_true and_self D.core D.cg qpick isB bof gval look Option.bind_some opc cgs Op.operands List.all_cons List.all_nil Bool.and_true and_true true_imp_iff imp_self false_imp_iff beq_true beq_false beq_iff_eq decide_eq_true_eq List.map_cons List.map_nil Bool.not_eq_true' decide_eq_false_iff_not gof gq gev cond_some Option.isSome_some Bool.or_eq_true Bool.and_eq_true Bool.or_eq_false_iff Bool.and_eq_false_iff Bool.not_eq_true Bool.not_eq_false Bool.not_eq_false' ne_eq implies_true forall_const Bool.cond_true_left Bool.cond_false_right not_false_eq_true not_true_eq_false Int.toNat_natCast Int.toNat_zero
attribute [local go_sem] qbuiltin qlook ments foldI mget mput keqD keyOK lookD_s lookD_n lookD_fs lookD_fn nput agop deqF deq1 nappZ cond_true cond_false Option.getD_some Option.getD_none Option.isSome_none ite_self qindex qslice qconv qextract qfield qfaddr qiaddr qload quop qiface qbuild qnil ldC ldD ob List.drop_succ_cons take_mapr drop_mapr List.drop_zero List.take_succ_cons List.take_zero List.length_cons List.length_nil List.getElem?_cons_zero List.getElem?_cons_succ Option.map_some Option.map_none List.head?_cons
attribute [local go_sem] nev isImm List.contains_cons List.contains_nil Bool.or_false Bool.or_true D.flat D.cellsOf D.isCell Bool.or_self Bool.and_self szOf nstore Store.get Store.upd putCells nk_cons not_or FZ frzE_mk frzL inL frz Store.del or_false boxCells List.headD_cons List.headD_nil List.nil_append List.append_nil List.cons_append List.drop_nil false_and and_false false_or true_or or_true Bool.false_and Bool.true_and Bool.false_or Bool.true_or Bool.and_false setPs lim_eq chunk zrep pls_eq plsF fillD resAll shop sbop bbop decide_true decide_false Bool.not_true Bool.not_false eq_self
attribute [local go_sem] tf0 tf1 tf2 tf3 tf4 tf5 tf6 tf7 tf8 tf9 tf10 tf11 tf12 tf13 tf14 tf15 tf16 tf17 tf18 tf19 tf20 tf21 tf22 tf23 tf24 tf25 tf26 tf27 tf28 tf29 tf30 tf31 tf32 tf33 tf34 tf35 tf36 tf37 tf38 tf39 tf40 tf41 tf42 tf43 tf44 tf45 tf46 tf47 tf48 tf49 tf50 tf51 tf52 tf53 tf54 tf55 tf56 tf57 tf58 tf59 tf60 tf61 tf62 tf63 tf64 tf65 tf66 tf67 tf68 tf69 tf70 tf71 tf72 tf73 tf74 tf75 tf76 tf77 tf78 tf79 tf80 tf81 tf82 tf83 tf84 tf85 tf86 tf87 tf88 tf89 tf90 tf91 tf92 tf93 tf94 tf95 tf96 tf97 tf98 tf99 tf100 tf101 tf102 tf103 tf104 tf105 tf106 tf107 tf108 tf109 tf110 tf111 tf112 tf113 tf114 tf115 tf116 tf117 tf118 tf119 tf120 tf121 tf122 tf123 tf124 tf125 tf126 tf127 tf128 tf129 tf130 tf131 tf132 tf133 tf134 tf135 tf136 tf137 tf138 tf139 tf140 tf141 tf142 tf143 tf144 tf145 tf146 tf147 tf148 tf149 tf150 tf151 tf152 tf153 tf154 tf155 tf156 tf157 tf158 tf159 tf160 tf161 tf162 tf163 tf164 tf165 tf166 tf167 tf168 tf169 tf170 tf171 tf172 tf173 tf174 tf175 tf176 tf177 tf178 tf179 tf180 tf181 tf182 tf183 tf184 tf185 tf186 tf187 tf188 tf189 tf190 tf191 tf192 tf193 tf194 tf195 tf196 tf197 tf198 tf199 tf200 tf201 tf202 tf203 tf204 tf205 tf206 tf207 tf208 tf209 tf210 tf211 tf212 tf213 tf214 tf215 tf216 tf217 tf218 tf219 tf220 tf221 tf222 tf223 tf224 tf225 tf226 tf227 tf228 tf229 tf230 tf231 tf232 tf233 tf234 tf235 tf236 tf237 tf238 tf239 tf240 tf241 tf242 tf243 tf244 tf245 tf246 tf247 tf248 tf249 tf250 tf251 tf252
attribute [local go_sem] List.length_map rowAt_n nrow rowAt_t trow rowAt_i irow
attribute [local go_sem] for_put for_put' for_look for_look'
attribute [local go_sem] crow_at crow
attribute [local go_sem] bl_get bl_look bl_put
theorem rput_w (l u : List Nd) (t v : Tok) (x : Int) (hp : 0 ≤ putI l x) (hu : 0 < u.length) (hn : l.length + u.length ≤ 1000000) : PCall Try.prog (.func 78) [.sl 5 (l.map nrow) t, .sl 5 (u.map nrow) v, .int .i64 x] (.sl 5 ((putL l u x).map nrow) .no) := by
  have hu2 : u.map nrow ≠ [] := fun e => by have := congrArg List.length e; simp only [List.length_map, List.length_nil] at this; omega
  obtain ⟨k, hk⟩ : ∃ k : Nat, putI l x = (k : Int) := ⟨(putI l x).toNat, by omega⟩
  have hpl := putI_le l x
  have hkl : k ≤ l.length := by omega
  have hki : (k : Int) ≤ (l.length : Int) := by omega
  refine PCall.le ?_
  refine fn_ Try.func78 (by rfl) (by rfl) (rs := [.tmp 6]) (by rfl) (by simp [Try.f78]) ?_
  refine sq ?_
  refine rg [0, 1, 2] [] [] (by kernel_rfl) ?_; intro κ ξ hκ hξ
  try simp (config := { decide := true }) only [go_sem, Nat.reduceMul, Nat.reduceAdd, Nat.reduceBEq, cond_false, List.take_length, hki]
  repeat with_reducible refine And.intro (by first | assumption | omega | (simp; done) | (simp; omega) | (intro hg; simp (config := { decide := true }) only [go_sem, hg]; done) | (intro hg; simp (config := { decide := true }) only [go_sem, hg]; omega)) ?_
  refine hκ _ _ ?_; clear hκ hξ ξ κ
  refine sq ?_
  refine rg [0, 1, 2, 7] [] [] (by kernel_rfl) ?_; intro κ ξ hκ hξ
  try simp (config := { decide := true }) only [go_sem, Nat.reduceMul, Nat.reduceAdd, Nat.reduceBEq, cond_false, List.take_length, hki]
  repeat with_reducible refine And.intro (by first | assumption | omega | (simp; done) | (simp; omega) | (intro hg; simp (config := { decide := true }) only [go_sem, hg]; done) | (intro hg; simp (config := { decide := true }) only [go_sem, hg]; omega)) ?_
  refine hκ _ _ ?_; clear hκ hξ ξ κ
  refine jn (α := Unit) (fun _ => mk [(0, .sl 5 (l.map nrow) t), (1, .sl 5 (u.map nrow) v), (7, .int .i64 k)]) (fun _ => []) (fun _ => True) ?_ ?_
  · refine sq ?_
    refine rg [0, 1, 2, 7, 12] [] [] (by kernel_rfl) ?_; intro κ ξ hκ hξ
    try simp (config := { decide := true }) only [go_sem, Nat.reduceMul, Nat.reduceAdd, Nat.reduceBEq, cond_false, List.take_length, hki]
    repeat with_reducible refine And.intro (by first | assumption | omega | (simp; done) | (simp; omega) | (intro hg; simp (config := { decide := true }) only [go_sem, hg]; done) | (intro hg; simp (config := { decide := true }) only [go_sem, hg]; omega)) ?_
    refine hκ _ _ ?_; clear hκ hξ ξ κ
    refine cd (by rfl) (fun c0 => ?_) (fun c0 => ?_)
    · try simp only [go_sem] at c0
      refine rg [0, 1, 7] [] [] (by kernel_rfl) ?_; intro κ ξ hκ hξ
      try simp (config := { decide := true }) only [go_sem, Nat.reduceMul, Nat.reduceAdd, Nat.reduceBEq, cond_false, List.take_length, hki, c0]
      repeat with_reducible refine And.intro (by first | assumption | omega | (simp; done) | (simp; omega) | (intro hg; simp (config := { decide := true }) only [go_sem, hg]; done) | (intro hg; simp (config := { decide := true }) only [go_sem, hg]; omega)) ?_
      refine callF (ridx_w _ _ _) ?_
      try simp (config := { decide := true }) only [go_sem, Nat.reduceMul, Nat.reduceAdd, Nat.reduceBEq, cond_false, List.take_length, hki, c0]
      repeat with_reducible refine And.intro (by first | assumption | omega | (simp; done) | (simp; omega) | (intro hg; simp (config := { decide := true }) only [go_sem, hg]; done) | (intro hg; simp (config := { decide := true }) only [go_sem, hg]; omega)) ?_
      refine hκ _ _ ?_; clear hκ hξ ξ κ
      have e : idx l x = (k : Int) := by unfold putI at hk; rw [if_neg (by simpa using c0)] at hk; exact hk
      rw [e]
      exact ⟨(), trivial, EnvLe.of_l ⟨rfl, rfl, rfl, trivial⟩, .refl _⟩
    · try simp only [go_sem] at c0
      refine sk ?_
      have e : (l.length : Int) = (k : Int) := by unfold putI at hk; rw [if_pos (by simpa using c0)] at hk; exact hk
      exact ⟨(), trivial, EnvLe.of_l ⟨rfl, rfl, congrArg (D.int .i64) e, trivial⟩, .refl _⟩
  · rintro _ _
    refine sq ?_
    refine rg [0, 1, 7, 8] [] [] (by kernel_rfl) ?_; intro κ ξ hκ hξ
    try simp (config := { decide := true }) only [go_sem, Nat.reduceMul, Nat.reduceAdd, Nat.reduceBEq, cond_false, List.take_length, hki]
    repeat with_reducible refine And.intro (by first | assumption | omega | (simp; done) | (simp; omega) | (intro hg; simp (config := { decide := true }) only [go_sem, hg]; done) | (intro hg; simp (config := { decide := true }) only [go_sem, hg]; omega)) ?_
    refine hκ _ _ ?_; clear hκ hξ ξ κ
    refine sq ?_
    by_cases hk0 : k = 0
    · subst hk0
      refine rg [0, 1, 7, 8] [] [] (by kernel_rfl) ?_; intro κ ξ hκ hξ
      try simp (config := { decide := true }) only [go_sem, Nat.reduceMul, Nat.reduceAdd, Nat.reduceBEq, cond_false, List.take_length, hki, List.take_zero, List.map_nil, List.drop_zero, List.nil_append]
      repeat with_reducible refine And.intro (by first | assumption | omega | (simp; done) | (simp; omega) | (intro hg; simp (config := { decide := true }) only [go_sem, hg]; done) | (intro hg; simp (config := { decide := true }) only [go_sem, hg]; omega)) ?_
      first
      | (refine napp_n rfl rfl (by simp (config := { decide := true }) only [go_sem, Option.isSome_some]) tf85 tf86 tf131 (by refine ⟨⟨rfl, by decide, by decide⟩, nrow_all _, hne, ?_⟩; simp only [List.length_map, List.length_take]; unfold capB; omega) ?_; intro b20 c20 hb20)
      | (refine napp_nn rfl rfl (by simp (config := { decide := true }) only [go_sem, Option.isSome_some]) tf85 tf86 tf131 ⟨rfl, by decide, by decide⟩ ?_)
      try simp (config := { decide := true }) only [go_sem, Nat.reduceMul, Nat.reduceAdd, Nat.reduceBEq, cond_false, List.take_length, hki, List.take_zero, List.map_nil, List.drop_zero, List.nil_append]
      repeat with_reducible refine And.intro (by first | assumption | omega | (simp; done) | (simp; omega) | (intro hg; simp (config := { decide := true }) only [go_sem, hg]; done) | (intro hg; simp (config := { decide := true }) only [go_sem, hg]; omega)) ?_
      refine hκ _ _ ?_; clear hκ hξ ξ κ
      refine sq ?_
      refine rg [0, 7, 8] [] [] (by kernel_rfl) ?_; intro κ ξ hκ hξ
      try simp (config := { decide := true }) only [go_sem, Nat.reduceMul, Nat.reduceAdd, Nat.reduceBEq, cond_false, List.take_length, hki, List.take_zero, List.map_nil, List.drop_zero, List.nil_append]
      repeat with_reducible refine And.intro (by first | assumption | omega | (simp; done) | (simp; omega) | (intro hg; simp (config := { decide := true }) only [go_sem, hg]; done) | (intro hg; simp (config := { decide := true }) only [go_sem, hg]; omega)) ?_
      first
      | (refine napp_own (ρ := []) (by first | rfl | (simp; done) | (simp [List.length_take]; omega)) (by simp [Store.keys]) rfl rfl (by simp (config := { decide := true }) only [go_sem, Option.isSome_some]) tf85 tf86 tf131 (by refine ⟨⟨rfl, by decide, by decide⟩, nrow_all _, ?_⟩; simp only [List.length_map, List.length_append, List.length_take, List.length_drop]; unfold capB; omega) ?_; intro b23 c23 hb23)
      | (refine napp_n rfl rfl (by simp (config := { decide := true }) only [go_sem, Option.isSome_some]) tf85 tf86 tf131 (by refine ⟨⟨rfl, by decide, by decide⟩, nrow_all _, hu2, ?_⟩; simp only [List.length_map, List.length_take]; unfold capB; omega) ?_; intro b23 c23 hb23)
      try simp (config := { decide := true }) only [go_sem, Nat.reduceMul, Nat.reduceAdd, Nat.reduceBEq, cond_false, List.take_length, hki, List.take_zero, List.map_nil, List.drop_zero, List.nil_append]
      repeat with_reducible refine And.intro (by first | assumption | omega | (simp; done) | (simp; omega) | (intro hg; simp (config := { decide := true }) only [go_sem, hg]; done) | (intro hg; simp (config := { decide := true }) only [go_sem, hg]; omega)) ?_
      refine hκ _ _ ?_; clear hκ hξ ξ κ
      refine sq ?_
      refine rg [6] [] [] (by kernel_rfl) ?_; intro κ ξ hκ hξ
      try simp (config := { decide := true }) only [go_sem, Nat.reduceMul, Nat.reduceAdd, Nat.reduceBEq, cond_false, List.take_length, hki, List.take_zero, List.map_nil, List.drop_zero, List.nil_append]
      repeat with_reducible refine And.intro (by first | assumption | omega | (simp; done) | (simp; omega) | (intro hg; simp (config := { decide := true }) only [go_sem, hg]; done) | (intro hg; simp (config := { decide := true }) only [go_sem, hg]; omega)) ?_
      refine napp_own (ρ := []) (by first | rfl | (simp; done) | (simp [List.length_take]; omega)) (by simp [Store.keys]) rfl rfl (by simp (config := { decide := true }) only [go_sem, Option.isSome_some]) tf85 tf86 tf131 (by refine ⟨⟨rfl, by decide, by decide⟩, nrow_all _, ?_⟩; simp only [List.length_map, List.length_append, List.length_take, List.length_drop]; unfold capB; omega) ?_
      intro b28 c28 hb28
      try simp (config := { decide := true }) only [go_sem, Nat.reduceMul, Nat.reduceAdd, Nat.reduceBEq, cond_false, List.take_length, hki, List.take_zero, List.map_nil, List.drop_zero, List.nil_append]
      repeat with_reducible refine And.intro (by first | assumption | omega | (simp; done) | (simp; omega) | (intro hg; simp (config := { decide := true }) only [go_sem, hg]; done) | (intro hg; simp (config := { decide := true }) only [go_sem, hg]; omega)) ?_
      refine hκ _ _ ?_; clear hκ hξ ξ κ
      refine rt ?_
      refine retL ?_
      simp (config := { decide := true }) only [go_sem, resD, resV, List.take_length, hki, List.take_zero, List.map_nil, List.drop_zero, List.nil_append]
      first
      | (unfold putL; rw [hk, Int.toNat_natCast, List.map_append, List.map_append]; exact DLe.tok _ _ _)
      | (unfold putL; rw [hk]; simp only [Int.toNat_zero, Int.cast_ofNat_Int, List.take_zero, List.nil_append, List.drop_zero, List.map_append]; exact DLe.tok _ _ _)
    · have hne : (l.take k).map nrow ≠ [] := fun e => hk0 (by have := congrArg List.length e; simp only [List.length_map, List.length_take, List.length_nil] at this; omega)
      refine rg [0, 1, 7, 8] [] [] (by kernel_rfl) ?_; intro κ ξ hκ hξ
      try simp (config := { decide := true }) only [go_sem, Nat.reduceMul, Nat.reduceAdd, Nat.reduceBEq, cond_false, List.take_length, hki]
      repeat with_reducible refine And.intro (by first | assumption | omega | (simp; done) | (simp; omega) | (intro hg; simp (config := { decide := true }) only [go_sem, hg]; done) | (intro hg; simp (config := { decide := true }) only [go_sem, hg]; omega)) ?_
      first
      | (refine napp_n rfl rfl (by simp (config := { decide := true }) only [go_sem, Option.isSome_some]) tf85 tf86 tf131 (by refine ⟨⟨rfl, by decide, by decide⟩, nrow_all _, hne, ?_⟩; simp only [List.length_map, List.length_take]; unfold capB; omega) ?_; intro b20 c20 hb20)
      | (refine napp_nn rfl rfl (by simp (config := { decide := true }) only [go_sem, Option.isSome_some]) tf85 tf86 tf131 ⟨rfl, by decide, by decide⟩ ?_)
      try simp (config := { decide := true }) only [go_sem, Nat.reduceMul, Nat.reduceAdd, Nat.reduceBEq, cond_false, List.take_length, hki]
      repeat with_reducible refine And.intro (by first | assumption | omega | (simp; done) | (simp; omega) | (intro hg; simp (config := { decide := true }) only [go_sem, hg]; done) | (intro hg; simp (config := { decide := true }) only [go_sem, hg]; omega)) ?_
      refine hκ _ _ ?_; clear hκ hξ ξ κ
      refine sq ?_
      refine rg [0, 7, 8] [] [] (by kernel_rfl) ?_; intro κ ξ hκ hξ
      try simp (config := { decide := true }) only [go_sem, Nat.reduceMul, Nat.reduceAdd, Nat.reduceBEq, cond_false, List.take_length, hki]
      repeat with_reducible refine And.intro (by first | assumption | omega | (simp; done) | (simp; omega) | (intro hg; simp (config := { decide := true }) only [go_sem, hg]; done) | (intro hg; simp (config := { decide := true }) only [go_sem, hg]; omega)) ?_
      first
      | (refine napp_own (ρ := []) (by first | rfl | (simp; done) | (simp [List.length_take]; omega)) (by simp [Store.keys]) rfl rfl (by simp (config := { decide := true }) only [go_sem, Option.isSome_some]) tf85 tf86 tf131 (by refine ⟨⟨rfl, by decide, by decide⟩, nrow_all _, ?_⟩; simp only [List.length_map, List.length_append, List.length_take, List.length_drop]; unfold capB; omega) ?_; intro b23 c23 hb23)
      | (refine napp_n rfl rfl (by simp (config := { decide := true }) only [go_sem, Option.isSome_some]) tf85 tf86 tf131 (by refine ⟨⟨rfl, by decide, by decide⟩, nrow_all _, hu2, ?_⟩; simp only [List.length_map, List.length_take]; unfold capB; omega) ?_; intro b23 c23 hb23)
      try simp (config := { decide := true }) only [go_sem, Nat.reduceMul, Nat.reduceAdd, Nat.reduceBEq, cond_false, List.take_length, hki]
      repeat with_reducible refine And.intro (by first | assumption | omega | (simp; done) | (simp; omega) | (intro hg; simp (config := { decide := true }) only [go_sem, hg]; done) | (intro hg; simp (config := { decide := true }) only [go_sem, hg]; omega)) ?_
      refine hκ _ _ ?_; clear hκ hξ ξ κ
      refine sq ?_
      refine rg [6] [] [] (by kernel_rfl) ?_; intro κ ξ hκ hξ
      try simp (config := { decide := true }) only [go_sem, Nat.reduceMul, Nat.reduceAdd, Nat.reduceBEq, cond_false, List.take_length, hki]
      repeat with_reducible refine And.intro (by first | assumption | omega | (simp; done) | (simp; omega) | (intro hg; simp (config := { decide := true }) only [go_sem, hg]; done) | (intro hg; simp (config := { decide := true }) only [go_sem, hg]; omega)) ?_
      refine napp_own (ρ := []) (by first | rfl | (simp; done) | (simp [List.length_take]; omega)) (by simp [Store.keys]) rfl rfl (by simp (config := { decide := true }) only [go_sem, Option.isSome_some]) tf85 tf86 tf131 (by refine ⟨⟨rfl, by decide, by decide⟩, nrow_all _, ?_⟩; simp only [List.length_map, List.length_append, List.length_take, List.length_drop]; unfold capB; omega) ?_
      intro b28 c28 hb28
      try simp (config := { decide := true }) only [go_sem, Nat.reduceMul, Nat.reduceAdd, Nat.reduceBEq, cond_false, List.take_length, hki]
      repeat with_reducible refine And.intro (by first | assumption | omega | (simp; done) | (simp; omega) | (intro hg; simp (config := { decide := true }) only [go_sem, hg]; done) | (intro hg; simp (config := { decide := true }) only [go_sem, hg]; omega)) ?_
      refine hκ _ _ ?_; clear hκ hξ ξ κ
      refine rt ?_
      refine retL ?_
      simp (config := { decide := true }) only [go_sem, resD, resV, List.take_length, hki]
      first
      | (unfold putL; rw [hk, Int.toNat_natCast, List.map_append, List.map_append]; exact DLe.tok _ _ _)
      | (unfold putL; rw [hk]; simp only [Int.toNat_zero, Int.cast_ofNat_Int, List.take_zero, List.nil_append, List.drop_zero, List.map_append]; exact DLe.tok _ _ _)

theorem gos_w (n : Nd) (m : Nat) (a : List Int) : RCall Try.prog (.func 96) [.ag (nrow n), .el [.mp m]] [(m, .map (blE a))] (fun (_ : Unit) => (.bool (decide (n.id ∈ a) || decide (n.par ∈ a)))) (fun (_ : Unit) => [(m, .map (blE a))]) (fun (_ : Unit) => True) := by
  refine fn_ Try.func96 (by rfl) (by rfl) (rs := [.tmp 3]) (by rfl) (by simp [Try.f96]) ?_
  refine sq ?_
  refine rg [1, 2] [2] [] (by kernel_rfl) ?_; intro κ ξ hκ hξ
  try simp (config := { decide := true }) only [go_sem, Nat.reduceMul, Nat.reduceAdd, Nat.reduceBEq, cond_false]
  repeat with_reducible refine And.intro (by first | assumption | omega | (simp; done) | (simp; omega) | (intro hg; simp (config := { decide := true }) only [go_sem, hg]; done) | (intro hg; simp (config := { decide := true }) only [go_sem, hg]; omega)) ?_
  refine hκ _ _ ?_; clear hκ hξ ξ κ
  refine sq ?_
  refine rg [3] [] [(4, 8)] (by kernel_rfl) ?_; intro κ ξ hκ hξ
  try simp (config := { decide := true }) only [go_sem, Nat.reduceMul, Nat.reduceAdd, Nat.reduceBEq, cond_false]
  repeat with_reducible refine And.intro (by first | assumption | omega | (simp; done) | (simp; omega) | (intro hg; simp (config := { decide := true }) only [go_sem, hg]; done) | (intro hg; simp (config := { decide := true }) only [go_sem, hg]; omega)) ?_
  refine hκ _ _ ?_; clear hκ hξ ξ κ
  refine rt ?_
  refine retR (()) ?_ ?_ ?_
  · first | exact .refl _ | exact List.nil_sublist _ | exact List.sublist_cons_of_sublist _ (.refl _) | exact ((List.Sublist.refl _).cons _).cons _ | (simp [*]; done) | skip
  · first | trivial | assumption | omega | (simp; done) | skip
  simp (config := { decide := true }) only [go_sem, resD, resV]
  all_goals rfl

theorem split_w (l : List Nd) (t : Tok) (x : Int) (hT : Tree l) (hx : 1 ≤ x) (hix : 0 ≤ idx l x) : RCall Try.prog (.func 79) [.sl 5 (l.map nrow) t, .int .i64 x] [] (fun (y : Nat × Nat) => .tup [.sl 5 ((stL l x l.length).map nrow) .no, .arr y.1 5 (goL l x l.length).length y.2]) (fun (y : Nat × Nat) => [(y.1, .arr 5 ((goL l x l.length).map nrow) y.2)]) (fun (y : Nat × Nat) => (goL l x l.length).length ≤ y.2) := by
  refine RCall.le ?_
  refine fn_ Try.func79 (by rfl) (by rfl) (rs := [.tmp 4, .tmp 5]) (by rfl) (by simp [Try.f79]) ?_
  refine sq ?_
  refine rg [0, 1, 4, 5] [] [] (by kernel_rfl) ?_; intro κ ξ hκ hξ
  try simp (config := { decide := true }) only [go_sem, Nat.reduceMul, Nat.reduceAdd, Nat.reduceBEq, cond_false]
  repeat with_reducible refine And.intro (by first | assumption | omega | (simp; done) | (simp; omega) | (intro hg; simp (config := { decide := true }) only [go_sem, hg]; done) | (intro hg; simp (config := { decide := true }) only [go_sem, hg]; omega)) ?_
  refine hκ _ _ ?_; clear hκ hξ ξ κ
  refine sq ?_
  refine rgz [(6, [])] [0, 4, 5, 6] [] [] (by kernel_rfl) ?_; intro κ ξ hκ hξ
  try simp (config := { decide := true }) only [go_sem, Nat.reduceMul, Nat.reduceAdd, Nat.reduceBEq, cond_false]
  repeat with_reducible refine And.intro (by first | assumption | omega | (simp; done) | (simp; omega) | (intro hg; simp (config := { decide := true }) only [go_sem, hg]; done) | (intro hg; simp (config := { decide := true }) only [go_sem, hg]; omega)) ?_
  intro b10 hb10
  try simp (config := { decide := true }) only [go_sem, Nat.reduceMul, Nat.reduceAdd, Nat.reduceBEq, cond_false, hb10]
  repeat with_reducible refine And.intro (by first | assumption | omega | (simp; done) | (simp; omega) | (intro hg; simp (config := { decide := true }) only [go_sem, hg]; done) | (intro hg; simp (config := { decide := true }) only [go_sem, hg]; omega)) ?_
  intro b6 hb6
  try simp (config := { decide := true }) only [go_sem, Nat.reduceMul, Nat.reduceAdd, Nat.reduceBEq, cond_false, hb10, hb6]
  repeat with_reducible refine And.intro (by first | assumption | omega | (simp; done) | (simp; omega) | (intro hg; simp (config := { decide := true }) only [go_sem, hg]; done) | (intro hg; simp (config := { decide := true }) only [go_sem, hg]; omega)) ?_
  refine hκ _ _ ?_; clear hκ hξ ξ κ
  refine sq ?_
  refine rg [0, 4, 5, 6, 7] [] [] (by kernel_rfl) ?_; intro κ ξ hκ hξ
  try simp (config := { decide := true }) only [go_sem, Nat.reduceMul, Nat.reduceAdd, Nat.reduceBEq, cond_false, hb10, hb6]
  repeat with_reducible refine And.intro (by first | assumption | omega | (simp; done) | (simp; omega) | (intro hg; simp (config := { decide := true }) only [go_sem, hg]; done) | (intro hg; simp (config := { decide := true }) only [go_sem, hg]; omega)) ?_
  refine hκ _ _ ?_; clear hκ hξ ξ κ
  refine sq ?_
  refine sq ?_
  refine rg [4, 5, 6, 7, 14, 15, 16] [] [] (by kernel_rfl) ?_; intro κ ξ hκ hξ
  try simp (config := { decide := true }) only [go_sem, Nat.reduceMul, Nat.reduceAdd, Nat.reduceBEq, cond_false, hb10, hb6]
  repeat with_reducible refine And.intro (by first | assumption | omega | (simp; done) | (simp; omega) | (intro hg; simp (config := { decide := true }) only [go_sem, hg]; done) | (intro hg; simp (config := { decide := true }) only [go_sem, hg]; omega)) ?_
  refine hκ _ _ ?_; clear hκ hξ ξ κ
  refine bl ?_
  refine lpp (α := Nat × Option (Nat × Nat) × Option (Nat × Nat)) (fun y => mk [(4, apD 5 ((stL l x y.1).map nrow) y.2.1), (5, mpD 5 (goL l x y.1).length y.2.2), (6, .el [.mp b10]), (7, .fn (.func 96) [] [.el [.mp b10]]), (14, .sl 5 (l.map nrow) t), (15, .int .i64 l.length), (16, .int .i64 y.1)]) (fun y => (b10, .map (blE (blL l x y.1))) :: (apS 5 (stL l x y.1).length y.2.1 ++ mpS 5 ((goL l x y.1).map nrow) y.2.2)) (fun y => y.1 ≤ l.length ∧ apOK ((stL l x y.1).map nrow) y.2.1 ∧ mpC (goL l x y.1).length y.2.2) (fun y => l.length - y.1) (0, none, none) ⟨⟨by omega, fun _ => rfl, rfl⟩, EnvLe.of_eq rfl, .refl _⟩ ?_
  rintro ⟨i, o1, o2⟩ ⟨hi, ho1, ho2⟩
  simp only at hi ho1 ho2
  have hgl := goL_len l x i
  have hsl := stL_len l x i
  have hl4 := hT.len.2
  refine sq ?_
  refine rg [4, 5, 6, 7, 14, 15, 16, 17] [] [] (by kernel_rfl) ?_; intro κ ξ hκ hξ
  try simp (config := { decide := true }) only [go_sem, Nat.reduceMul, Nat.reduceAdd, Nat.reduceBEq, cond_false, hb10, hb6]
  repeat with_reducible refine And.intro (by first | assumption | omega | (simp; done) | (simp; omega) | (intro hg; simp (config := { decide := true }) only [go_sem, hg]; done) | (intro hg; simp (config := { decide := true }) only [go_sem, hg]; omega)) ?_
  refine hκ _ _ ?_; clear hκ hξ ξ κ
  refine sq ?_
  refine cd (by rfl) (fun c0 => ?_) (fun c0 => ?_)
  · simp only [go_sem] at c0
    have hil : i < l.length := by omega
    refine sk ?_
    refine sq ?_
    refine bl ?_
    refine sq ?_
    refine rgz [(9, [])] [4, 5, 6, 7, 9, 14, 15, 16] [] [] (by kernel_rfl) ?_; intro κ ξ hκ hξ
    try simp (config := { decide := true }) only [go_sem, Nat.reduceMul, Nat.reduceAdd, Nat.reduceBEq, cond_false, hb10, hb6, c0]
    repeat with_reducible refine And.intro (by first | assumption | omega | (simp; done) | (simp; omega) | (intro hg; simp (config := { decide := true }) only [go_sem, hg]; done) | (intro hg; simp (config := { decide := true }) only [go_sem, hg]; omega)) ?_
    intro b9 hb9
    try simp (config := { decide := true }) only [go_sem, Nat.reduceMul, Nat.reduceAdd, Nat.reduceBEq, cond_false, hb10, hb6, c0, hb9]
    repeat with_reducible refine And.intro (by first | assumption | omega | (simp; done) | (simp; omega) | (intro hg; simp (config := { decide := true }) only [go_sem, hg]; done) | (intro hg; simp (config := { decide := true }) only [go_sem, hg]; omega)) ?_
    refine hκ _ _ ?_; clear hκ hξ ξ κ
    refine sq ?_
    refine sq ?_
    refine rg [4, 5, 6, 7, 9, 14, 15, 16, 22] [] [] (by kernel_rfl) ?_; intro κ ξ hκ hξ
    try simp (config := { decide := true }) only [go_sem, Nat.reduceMul, Nat.reduceAdd, Nat.reduceBEq, cond_false, hb10, hb6, c0, hb9]
    repeat with_reducible refine And.intro (by first | assumption | omega | (simp; done) | (simp; omega) | (intro hg; simp (config := { decide := true }) only [go_sem, hg]; done) | (intro hg; simp (config := { decide := true }) only [go_sem, hg]; omega)) ?_
    refine callR (RCall.frame (by have h := gos_w (nat l i) b10 (blL l x i); rw [bl_go hT hil hx] at h; exact h) _) fun _ _ => ?_
    try simp (config := { decide := true }) only [go_sem, Nat.reduceMul, Nat.reduceAdd, Nat.reduceBEq, cond_false, hb10, hb6, c0, hb9]
    repeat with_reducible refine And.intro (by first | assumption | omega | (simp; done) | (simp; omega) | (intro hg; simp (config := { decide := true }) only [go_sem, hg]; done) | (intro hg; simp (config := { decide := true }) only [go_sem, hg]; omega)) ?_
    refine hκ _ _ ?_; clear hκ hξ ξ κ
    refine cd (by rfl) (fun c1 => ?_) (fun c1 => ?_)
    · skip
      refine sq ?_
      refine rg [4, 5, 6, 7, 9, 14, 15, 16] [] [] (by kernel_rfl) ?_; intro κ ξ hκ hξ
      try simp (config := { decide := true }) only [go_sem, Nat.reduceMul, Nat.reduceAdd, Nat.reduceBEq, cond_false, hb10, hb6, c0, hb9, c1]
      repeat with_reducible refine And.intro (by first | assumption | omega | (simp; done) | (simp; omega) | (intro hg; simp (config := { decide := true }) only [go_sem, hg]; done) | (intro hg; simp (config := { decide := true }) only [go_sem, hg]; omega)) ?_
      refine hκ _ _ ?_; clear hκ hξ ξ κ
      refine weakP _ (EnvLe.refl _) (permB _ _ _) ?_
      refine nodupW fun hnd => ?_
      refine sq ?_
      refine rg [4, 5, 6, 7, 14, 15, 16] [29] [] (by kernel_rfl) ?_; intro κ ξ hκ hξ
      try simp (config := { decide := true }) only [go_sem, Nat.reduceMul, Nat.reduceAdd, Nat.reduceBEq, cond_false, hb10, hb6, c0, hb9, c1]
      repeat with_reducible refine And.intro (by first | assumption | omega | (simp; done) | (simp; omega) | (intro hg; simp (config := { decide := true }) only [go_sem, hg]; done) | (intro hg; simp (config := { decide := true }) only [go_sem, hg]; omega)) ?_
      refine .inl (nappM_growN' (rows := (goL l x i).map nrow) (by simp) ho2 (fr_mp hnd) rfl rfl (by simp (config := { decide := true }) only [go_sem, Option.isSome_some]) tf85 tf86 tf131 (by refine ⟨⟨rfl, by decide, by decide⟩, by simp (config := { decide := true }) only [go_sem], by simp, ?_⟩; simp [capB] <;> omega) ?_)
      intro b29 c29 hb29 hc29
      try simp (config := { decide := true }) only [go_sem, Nat.reduceMul, Nat.reduceAdd, Nat.reduceBEq, cond_false, hb10, hb6, c0, hb9, c1, hb29]
      repeat with_reducible refine And.intro (by first | assumption | omega | (simp; done) | (simp; omega) | (intro hg; simp (config := { decide := true }) only [go_sem, hg]; done) | (intro hg; simp (config := { decide := true }) only [go_sem, hg]; omega)) ?_
      refine hκ _ _ ?_; clear hκ hξ ξ κ
      refine ex ?_
      refine rg [4, 5, 6, 7, 14, 15, 16] [] [] (by kernel_rfl) ?_; intro κ ξ hκ hξ
      try simp (config := { decide := true }) only [go_sem, Nat.reduceMul, Nat.reduceAdd, Nat.reduceBEq, cond_false, hb10, hb6, c0, hb9, c1, hb29]
      repeat with_reducible refine And.intro (by first | assumption | omega | (simp; done) | (simp; omega) | (intro hg; simp (config := { decide := true }) only [go_sem, hg]; done) | (intro hg; simp (config := { decide := true }) only [go_sem, hg]; omega)) ?_
      refine hκ _ _ ?_; clear hκ hξ ξ κ
      have hg1 : goL l x (i + 1) = goL l x i ++ [nat l i] := by rw [goL_succ, if_pos c1]
      have hs1 : stL l x (i + 1) = stL l x i := by rw [stL_succ, if_pos c1]
      have hb1 : blL l x (i + 1) = insI (nat l i).id (blL l x i) := by rw [blL, if_pos c1]
      refine ⟨(i + 1, o1, some (b29, c29)), ⟨⟨by omega, by rw [hs1]; exact ho1, ?_⟩, by simp only; omega⟩, EnvLe.of_eq ?_, ?_⟩
      · show (goL l x (i + 1)).length ≤ c29
        rw [hg1]; simpa using hc29
      · rw [w64 (by omega), hg1, hs1, List.length_append]; rfl
      · rw [hg1, hs1, hb1, List.map_append]; exact (permB _ _ _).symm
    · refine weakP _ (EnvLe.refl _) (permA _ _ _) ?_
      refine nodupW fun hnd => ?_
      refine sk ?_
      refine rg [4, 5, 6, 7, 14, 15, 16] [] [] (by kernel_rfl) ?_; intro κ ξ hκ hξ
      try simp (config := { decide := true }) only [go_sem, Nat.reduceMul, Nat.reduceAdd, Nat.reduceBEq, cond_false, hb10, hb6, c0, hb9, c1]
      repeat with_reducible refine And.intro (by first | assumption | omega | (simp; done) | (simp; omega) | (intro hg; simp (config := { decide := true }) only [go_sem, hg]; done) | (intro hg; simp (config := { decide := true }) only [go_sem, hg]; omega)) ?_
      refine napp_growN (rows := (stL l x i).map nrow) ho1 (fr_ap hnd) (by simp) rfl rfl (by simp (config := { decide := true }) only [go_sem, Option.isSome_some]) tf85 tf86 tf131 (by refine ⟨⟨rfl, by decide, by decide⟩, by simp (config := { decide := true }) only [go_sem], by simp, ?_⟩; simp [capB] <;> omega) ?_
      intro b33 c33 hb33
      try simp (config := { decide := true }) only [go_sem, Nat.reduceMul, Nat.reduceAdd, Nat.reduceBEq, cond_false, hb10, hb6, c0, hb9, c1]
      repeat with_reducible refine And.intro (by first | assumption | omega | (simp; done) | (simp; omega) | (intro hg; simp (config := { decide := true }) only [go_sem, hg]; done) | (intro hg; simp (config := { decide := true }) only [go_sem, hg]; omega)) ?_
      refine hκ _ _ ?_; clear hκ hξ ξ κ
      refine rg [4, 5, 6, 7, 14, 15, 16] [] [] (by kernel_rfl) ?_; intro κ ξ hκ hξ
      try simp (config := { decide := true }) only [go_sem, Nat.reduceMul, Nat.reduceAdd, Nat.reduceBEq, cond_false, hb10, hb6, c0, hb9, c1]
      repeat with_reducible refine And.intro (by first | assumption | omega | (simp; done) | (simp; omega) | (intro hg; simp (config := { decide := true }) only [go_sem, hg]; done) | (intro hg; simp (config := { decide := true }) only [go_sem, hg]; omega)) ?_
      refine hκ _ _ ?_; clear hκ hξ ξ κ
      have hg1 : goL l x (i + 1) = goL l x i := by rw [goL_succ, if_neg (by simpa using c1)]
      have hs1 : stL l x (i + 1) = stL l x i ++ [nat l i] := by rw [stL_succ, if_neg (by simpa using c1)]
      have hb1 : blL l x (i + 1) = blL l x i := by rw [blL, if_neg (by simpa using c1)]
      refine ⟨(i + 1, some (b33, c33), o2), ⟨⟨by omega, (fun h => by cases h), by rw [hg1]; exact ho2⟩, by simp only; omega⟩, EnvLe.of_eq ?_, ?_⟩
      · rw [w64 (by omega), hg1, hs1, List.map_append]; rfl
      · rw [hg1, hs1, hb1, List.length_append]; exact (permA _ _ _).symm
  · simp only [go_sem] at c0
    refine ex ?_
    refine sq ?_
    refine rg [4, 5] [] [] (by kernel_rfl) ?_; intro κ ξ hκ hξ
    try simp (config := { decide := true }) only [go_sem, Nat.reduceMul, Nat.reduceAdd, Nat.reduceBEq, cond_false, hb10, hb6, c0]
    repeat with_reducible refine And.intro (by first | assumption | omega | (simp; done) | (simp; omega) | (intro hg; simp (config := { decide := true }) only [go_sem, hg]; done) | (intro hg; simp (config := { decide := true }) only [go_sem, hg]; omega)) ?_
    refine hκ _ _ ?_; clear hκ hξ ξ κ
    obtain ⟨tl, htl, -⟩ := goL_first hT hix
    obtain rfl : i = l.length := by omega
    obtain ⟨⟨b5, c5⟩, rfl⟩ : ∃ p, o2 = some p := by
      cases o2 with
      | none => have h : (goL l x l.length).length = 0 := ho2; rw [htl] at h; simp at h
      | some p => exact ⟨p, rfl⟩
    refine rt ?_
    refine retRL ((b5, c5)) ?_ ?_ ?_
    · exact (List.sublist_append_right _ _).cons _
    · first | trivial | assumption | omega | (simp; done) | skip
    simp (config := { decide := true }) only [go_sem, resD, resV, hb10, hb6, c0]
    exact DLe.tup ⟨apD_le 5 ho1, DLe.refl _, trivial⟩

theorem rsplit_w (l : List Nd) (t : Tok) (x : Int) (hT : Tree l) (hx : 1 ≤ x) (hix : 0 ≤ idx l x) : RCall Try.prog (.func 80) [.sl 5 (l.map nrow) t, .int .i64 x] [] (fun (y : Nat × Nat) => .tup [.sl 5 ((stL l x l.length).map nrow) .no, .arr y.1 5 (goL l x l.length).length y.2]) (fun (y : Nat × Nat) => [(y.1, .arr 5 ((goL l x l.length).map nrow) y.2)]) (fun (y : Nat × Nat) => (goL l x l.length).length ≤ y.2) := by
  refine RCall.le ?_
  refine fn_ Try.func80 (by rfl) (by rfl) (rs := [.tmp 4, .tmp 5]) (by rfl) (by simp [Try.f80]) ?_
  refine sq ?_
  refine rg [0, 1] [] [] (by kernel_rfl) ?_; intro κ ξ hκ hξ
  try simp (config := { decide := true }) only [go_sem, Nat.reduceMul, Nat.reduceAdd, Nat.reduceBEq, cond_false]
  repeat with_reducible refine And.intro (by first | assumption | omega | (simp; done) | (simp; omega) | (intro hg; simp (config := { decide := true }) only [go_sem, hg]; done) | (intro hg; simp (config := { decide := true }) only [go_sem, hg]; omega)) ?_
  refine hκ _ _ ?_; clear hκ hξ ξ κ
  refine sq ?_
  refine rg [0, 1, 6] [] [] (by kernel_rfl) ?_; intro κ ξ hκ hξ
  try simp (config := { decide := true }) only [go_sem, Nat.reduceMul, Nat.reduceAdd, Nat.reduceBEq, cond_false]
  repeat with_reducible refine And.intro (by first | assumption | omega | (simp; done) | (simp; omega) | (intro hg; simp (config := { decide := true }) only [go_sem, hg]; done) | (intro hg; simp (config := { decide := true }) only [go_sem, hg]; omega)) ?_
  refine hκ _ _ ?_; clear hκ hξ ξ κ
  refine sq ?_
  refine rg [0, 1, 6, 7] [] [] (by kernel_rfl) ?_; intro κ ξ hκ hξ
  try simp (config := { decide := true }) only [go_sem, Nat.reduceMul, Nat.reduceAdd, Nat.reduceBEq, cond_false]
  repeat with_reducible refine And.intro (by first | assumption | omega | (simp; done) | (simp; omega) | (intro hg; simp (config := { decide := true }) only [go_sem, hg]; done) | (intro hg; simp (config := { decide := true }) only [go_sem, hg]; omega)) ?_
  refine hκ _ _ ?_; clear hκ hξ ξ κ
  refine sq ?_
  refine sq ?_
  refine rg [0, 1, 6, 7, 8] [] [] (by kernel_rfl) ?_; intro κ ξ hκ hξ
  try simp (config := { decide := true }) only [go_sem, Nat.reduceMul, Nat.reduceAdd, Nat.reduceBEq, cond_false]
  repeat with_reducible refine And.intro (by first | assumption | omega | (simp; done) | (simp; omega) | (intro hg; simp (config := { decide := true }) only [go_sem, hg]; done) | (intro hg; simp (config := { decide := true }) only [go_sem, hg]; omega)) ?_
  refine hκ _ _ ?_; clear hκ hξ ξ κ
  refine bl ?_
  refine lpp (α := Nat × Option (Nat × Nat) × Option (Nat × Nat)) (fun y => mk [(0, .sl 5 (l.map nrow) t), (1, .int .i64 x), (6, apD 5 ((stL l x y.1).map nrow) y.2.1), (7, mpD 5 (goL l x y.1).length y.2.2), (8, .int .i64 y.1)]) (fun y => apS 5 (stL l x y.1).length y.2.1 ++ mpS 5 ((goL l x y.1).map nrow) y.2.2) (fun y => y.1 ≤ l.length ∧ apOK ((stL l x y.1).map nrow) y.2.1 ∧ mpC (goL l x y.1).length y.2.2) (fun y => l.length - y.1) (0, none, none) ⟨⟨by omega, fun _ => rfl, rfl⟩, EnvLe.of_eq rfl, .refl _⟩ ?_
  rintro ⟨i, o1, o2⟩ ⟨hi, ho1, ho2⟩
  simp only at hi ho1 ho2
  have hgl := goL_len l x i
  have hsl := stL_len l x i
  have hl4 := hT.len.2
  refine sq ?_
  refine sq ?_
  refine rg [0, 1, 6, 7, 8, 12] [] [] (by kernel_rfl) ?_; intro κ ξ hκ hξ
  try simp (config := { decide := true }) only [go_sem, Nat.reduceMul, Nat.reduceAdd, Nat.reduceBEq, cond_false]
  repeat with_reducible refine And.intro (by first | assumption | omega | (simp; done) | (simp; omega) | (intro hg; simp (config := { decide := true }) only [go_sem, hg]; done) | (intro hg; simp (config := { decide := true }) only [go_sem, hg]; omega)) ?_
  refine hκ _ _ ?_; clear hκ hξ ξ κ
  refine cd (by rfl) (fun c0 => ?_) (fun c0 => ?_)
  · simp only [go_sem] at c0
    have hil : i < l.length := by omega
    refine sk ?_
    refine sq ?_
    refine bl ?_
    refine sq ?_
    refine rg [0, 1, 6, 7, 8, 23] [] [] (by kernel_rfl) ?_; intro κ ξ hκ hξ
    try simp (config := { decide := true }) only [go_sem, Nat.reduceMul, Nat.reduceAdd, Nat.reduceBEq, cond_false, c0]
    repeat with_reducible refine And.intro (by first | assumption | omega | (simp; done) | (simp; omega) | (intro hg; simp (config := { decide := true }) only [go_sem, hg]; done) | (intro hg; simp (config := { decide := true }) only [go_sem, hg]; omega)) ?_
    refine callF (way_w l t i hT hil) ?_
    try simp (config := { decide := true }) only [go_sem, Nat.reduceMul, Nat.reduceAdd, Nat.reduceBEq, cond_false, c0]
    repeat with_reducible refine And.intro (by first | assumption | omega | (simp; done) | (simp; omega) | (intro hg; simp (config := { decide := true }) only [go_sem, hg]; done) | (intro hg; simp (config := { decide := true }) only [go_sem, hg]; omega)) ?_
    refine callP (by have h := rhas_w (pathL l i) .no x; exact h) ?_
    try simp (config := { decide := true }) only [go_sem, Nat.reduceMul, Nat.reduceAdd, Nat.reduceBEq, cond_false, c0]
    repeat with_reducible refine And.intro (by first | assumption | omega | (simp; done) | (simp; omega) | (intro hg; simp (config := { decide := true }) only [go_sem, hg]; done) | (intro hg; simp (config := { decide := true }) only [go_sem, hg]; omega)) ?_
    refine hκ _ _ ?_; clear hκ hξ ξ κ
    refine cd (by rfl) (fun c1 => ?_) (fun c1 => ?_)
    · have c1 : goB l x i = true := c1
      refine weakP _ (EnvLe.refl _) List.perm_append_comm ?_
      refine nodupW fun hnd => ?_
      refine rg [0, 1, 6, 7, 8] [30] [] (by kernel_rfl) ?_; intro κ ξ hκ hξ
      try simp (config := { decide := true }) only [go_sem, Nat.reduceMul, Nat.reduceAdd, Nat.reduceBEq, cond_false, c0, c1]
      repeat with_reducible refine And.intro (by first | assumption | omega | (simp; done) | (simp; omega) | (intro hg; simp (config := { decide := true }) only [go_sem, hg]; done) | (intro hg; simp (config := { decide := true }) only [go_sem, hg]; omega)) ?_
      refine .inl (nappM_growN' (rows := (goL l x i).map nrow) (by simp) ho2 (fr_mp hnd) rfl rfl (by simp (config := { decide := true }) only [go_sem, Option.isSome_some]) tf85 tf86 tf131 (by refine ⟨⟨rfl, by decide, by decide⟩, by simp (config := { decide := true }) only [go_sem], by simp, ?_⟩; simp [capB] <;> omega) ?_)
      intro b30 c30 hb30 hc30
      try simp (config := { decide := true }) only [go_sem, Nat.reduceMul, Nat.reduceAdd, Nat.reduceBEq, cond_false, c0, c1, hb30]
      repeat with_reducible refine And.intro (by first | assumption | omega | (simp; done) | (simp; omega) | (intro hg; simp (config := { decide := true }) only [go_sem, hg]; done) | (intro hg; simp (config := { decide := true }) only [go_sem, hg]; omega)) ?_
      refine hκ _ _ ?_; clear hκ hξ ξ κ
      refine rg [0, 1, 6, 7, 8] [] [] (by kernel_rfl) ?_; intro κ ξ hκ hξ
      try simp (config := { decide := true }) only [go_sem, Nat.reduceMul, Nat.reduceAdd, Nat.reduceBEq, cond_false, c0, c1, hb30]
      repeat with_reducible refine And.intro (by first | assumption | omega | (simp; done) | (simp; omega) | (intro hg; simp (config := { decide := true }) only [go_sem, hg]; done) | (intro hg; simp (config := { decide := true }) only [go_sem, hg]; omega)) ?_
      refine hκ _ _ ?_; clear hκ hξ ξ κ
      have hg1 : goL l x (i + 1) = goL l x i ++ [nat l i] := by rw [goL_succ, if_pos c1]
      have hs1 : stL l x (i + 1) = stL l x i := by rw [stL_succ, if_pos c1]
      refine ⟨(i + 1, o1, some (b30, c30)), ⟨⟨by omega, by rw [hs1]; exact ho1, ?_⟩, by simp only; omega⟩, EnvLe.of_eq ?_, ?_⟩
      · show (goL l x (i + 1)).length ≤ c30
        rw [hg1]; simpa using hc30
      · rw [w64 (by omega), hg1, hs1, List.length_append]; rfl
      · rw [hg1, hs1, List.map_append]; exact List.perm_append_comm
    · have c1 : goB l x i = false := c1
      refine nodupW fun hnd => ?_
      refine rg [0, 1, 6, 7, 8] [] [] (by kernel_rfl) ?_; intro κ ξ hκ hξ
      try simp (config := { decide := true }) only [go_sem, Nat.reduceMul, Nat.reduceAdd, Nat.reduceBEq, cond_false, c0, c1]
      repeat with_reducible refine And.intro (by first | assumption | omega | (simp; done) | (simp; omega) | (intro hg; simp (config := { decide := true }) only [go_sem, hg]; done) | (intro hg; simp (config := { decide := true }) only [go_sem, hg]; omega)) ?_
      refine napp_growN (rows := (stL l x i).map nrow) ho1 (fr_ap hnd) (by simp) rfl rfl (by simp (config := { decide := true }) only [go_sem, Option.isSome_some]) tf85 tf86 tf131 (by refine ⟨⟨rfl, by decide, by decide⟩, by simp (config := { decide := true }) only [go_sem], by simp, ?_⟩; simp [capB] <;> omega) ?_
      intro b37 c37 hb37
      try simp (config := { decide := true }) only [go_sem, Nat.reduceMul, Nat.reduceAdd, Nat.reduceBEq, cond_false, c0, c1]
      repeat with_reducible refine And.intro (by first | assumption | omega | (simp; done) | (simp; omega) | (intro hg; simp (config := { decide := true }) only [go_sem, hg]; done) | (intro hg; simp (config := { decide := true }) only [go_sem, hg]; omega)) ?_
      refine hκ _ _ ?_; clear hκ hξ ξ κ
      refine rg [0, 1, 6, 7, 8] [] [] (by kernel_rfl) ?_; intro κ ξ hκ hξ
      try simp (config := { decide := true }) only [go_sem, Nat.reduceMul, Nat.reduceAdd, Nat.reduceBEq, cond_false, c0, c1]
      repeat with_reducible refine And.intro (by first | assumption | omega | (simp; done) | (simp; omega) | (intro hg; simp (config := { decide := true }) only [go_sem, hg]; done) | (intro hg; simp (config := { decide := true }) only [go_sem, hg]; omega)) ?_
      refine hκ _ _ ?_; clear hκ hξ ξ κ
      have hg1 : goL l x (i + 1) = goL l x i := by rw [goL_succ, if_neg (by simpa using c1)]
      have hs1 : stL l x (i + 1) = stL l x i ++ [nat l i] := by rw [stL_succ, if_neg (by simpa using c1)]
      refine ⟨(i + 1, some (b37, c37), o2), ⟨⟨by omega, (fun h => by cases h), by rw [hg1]; exact ho2⟩, by simp only; omega⟩, EnvLe.of_eq ?_, ?_⟩
      · rw [w64 (by omega), hg1, hs1, List.map_append]; rfl
      · rw [hg1, hs1, List.length_append]; exact .refl _
  · simp only [go_sem] at c0
    refine ex ?_
    refine sq ?_
    refine rg [4, 5] [] [] (by kernel_rfl) ?_; intro κ ξ hκ hξ
    try simp (config := { decide := true }) only [go_sem, Nat.reduceMul, Nat.reduceAdd, Nat.reduceBEq, cond_false, c0]
    repeat with_reducible refine And.intro (by first | assumption | omega | (simp; done) | (simp; omega) | (intro hg; simp (config := { decide := true }) only [go_sem, hg]; done) | (intro hg; simp (config := { decide := true }) only [go_sem, hg]; omega)) ?_
    refine hκ _ _ ?_; clear hκ hξ ξ κ
    obtain ⟨tl, htl, -⟩ := goL_first hT hix
    obtain rfl : i = l.length := by omega
    obtain ⟨⟨b5, c5⟩, rfl⟩ : ∃ p, o2 = some p := by
      cases o2 with
      | none => have h : (goL l x l.length).length = 0 := ho2; rw [htl] at h; simp at h
      | some p => exact ⟨p, rfl⟩
    refine rt ?_
    refine retRL ((b5, c5)) ?_ ?_ ?_
    · exact List.sublist_append_right _ _
    · first | trivial | assumption | omega | (simp; done) | skip
    simp (config := { decide := true }) only [go_sem, resD, resV, c0]
    exact DLe.tup ⟨apD_le 5 ho1, DLe.refl _, trivial⟩

end Go.Proofs.Ytgccnkihonmlbaa

/- The walks of the selector's forest. Printed by a tool of our own. -/
import Derived.Test.YtgccnkihonmlbaaSi
namespace Go.Proofs.Ytgccnkihonmlbaa
open Go Go.RowKit
set_option linter.unusedSimpArgs false
set_option linter.unusedVariables false
set_option maxHeartbeats 4000000
set_option maxRecDepth 100000
theorem permX {α : Type} (x a b c : α) (t : List α) : (x :: a :: b :: c :: t).Perm (a :: c :: x :: b :: t) :=
  (List.Perm.swap a x _).trans ((List.perm_middle (l₁ := [x, b]) (a := c) (l₂ := t)).cons a)
attribute [local go_sem ↓] vo_nil vK_eq vo_q vo_g vo_n vo_c vd_nil dK_eq eK_eq vd_q vd_g vd_n vd_st vd_c cgs_call cgs_builtin
attribute [local go_sem] Ext_refl Ext_cons
attribute [local go_sem] quiet_move quiet_assign quiet_pick quiet_binOp quiet_unOp quiet_convert quiet_field quiet_fieldAddr quiet_indexAddr quiet_index quiet_load quiet_lookup quiet_extract quiet_build quiet_makeInterface quiet_makeFunc quiet_slice quiet_nilCheck quiet_alloc isCall_alloc quiet_box isCall_box quiet_buildSlice isCall_buildSlice quiet_store isCall_store quiet_range isCall_range quiet_next isCall_next quiet_makeSlice isCall_makeSlice quiet_panic isCall_panic quiet_len quiet_cap quiet_min quiet_max quiet_append isCall_append quiet_copy isCall_copy quiet_delete isCall_delete nqk_alloc nqk_box nqk_buildSlice nqk_range nqk_next nqk_makeSlice nqk_panic nqk_makeMap nqk_entry nqk_append nqk_copy nqk_delete isSt_alloc isSt_box isSt_buildSlice isSt_range isSt_next isSt_makeSlice isSt_panic isSt_makeMap isSt_entry isSt_store isSt_mapUpdate isSt_insert isSt_append isSt_copy isSt_delete quiet_makeMap isCall_makeMap quiet_mapUpdate isCall_mapUpdate quiet_insert isCall_insert
attribute [local go_sem] argEnv qev opd put_some put_none set_at mk_cons mk_nil prune_eq D.ofV ofC_int ofC_nil ofC_str ofC_nilmap ofC_nilfunc ofC_nilptr true_and ofC_bool bop isSh ibop Bool.false_eq_true if_false if_true and_self D.core D.cg qpick isB bof gval look Option.bind_some opc cgs Op.operands List.all_cons List.all_nil Bool.and_true and_true true_imp_iff imp_self false_imp_iff beq_true beq_false beq_iff_eq decide_eq_true_eq List.map_cons List.map_nil Bool.not_eq_true' decide_eq_false_iff_not gof gq gev cond_some Option.isSome_some Bool.or_eq_true Bool.and_eq_true Bool.or_eq_false_iff Bool.and_eq_false_iff Bool.not_eq_true Bool.not_eq_false Bool.not_eq_false' ne_eq implies_true forall_const Bool.cond_true_left Bool.cond_false_right not_false_eq_true not_true_eq_false Int.toNat_natCast Int.toNat_zero
attribute [local go_sem] qbuiltin qlook ments foldI mget mput keqD keyOK lookD_s lookD_n lookD_fs lookD_fn nput agop deqF deq1 nappZ cond_true cond_false Option.getD_some Option.getD_none Option.isSome_none ite_self qindex qslice qconv qextract qfield qfaddr qiaddr qload quop qiface qbuild qnil ldC ldD ob List.drop_succ_cons take_mapr drop_mapr List.drop_zero List.take_succ_cons List.take_zero List.length_cons List.length_nil List.getElem?_cons_zero List.getElem?_cons_succ Option.map_some Option.map_none List.head?_cons
attribute [local go_sem] nev isImm List.contains_cons List.contains_nil Bool.or_false Bool.or_true D.flat D.cellsOf D.isCell Bool.or_self Bool.and_self szOf nstore Store.get Store.upd putCells nk_cons not_or FZ frzE_mk frzL inL frz Store.del or_false boxCells List.headD_cons List.headD_nil List.nil_append List.append_nil List.cons_append List.drop_nil false_and and_false false_or true_or or_true Bool.false_and Bool.true_and Bool.false_or Bool.true_or Bool.and_false setPs lim_eq chunk zrep pls_eq plsF fillD resAll shop sbop bbop decide_true decide_false Bool.not_true Bool.not_false eq_self
attribute [local go_sem] tf0 tf1 tf2 tf3 tf4 tf5 tf6 tf7 tf8 tf9 tf10 tf11 tf12 tf13 tf14 tf15 tf16 tf17 tf18 tf19 tf20 tf21 tf22 tf23 tf24 tf25 tf26 tf27 tf28 tf29 tf30 tf31 tf32 tf33 tf34 tf35 tf36 tf37 tf38 tf39 tf40 tf41 tf42 tf43 tf44 tf45 tf46 tf47 tf48 tf49 tf50 tf51 tf52 tf53 tf54 tf55 tf56 tf57 tf58 tf59 tf60 tf61 tf62 tf63 tf64 tf65 tf66 tf67 tf68 tf69 tf70 tf71 tf72 tf73 tf74 tf75 tf76 tf77 tf78 tf79 tf80 tf81 tf82 tf83 tf84 tf85 tf86 tf87 tf88 tf89 tf90 tf91 tf92 tf93 tf94 tf95 tf96 tf97 tf98 tf99 tf100 tf101 tf102 tf103 tf104 tf105 tf106 tf107 tf108 tf109 tf110 tf111 tf112 tf113 tf114 tf115 tf116 tf117 tf118 tf119 tf120 tf121 tf122 tf123 tf124 tf125 tf126 tf127 tf128 tf129 tf130 tf131 tf132 tf133 tf134 tf135 tf136 tf137 tf138 tf139 tf140 tf141 tf142 tf143 tf144 tf145 tf146 tf147 tf148 tf149 tf150 tf151 tf152 tf153 tf154 tf155 tf156 tf157 tf158 tf159 tf160 tf161 tf162 tf163 tf164 tf165 tf166 tf167 tf168 tf169 tf170 tf171 tf172 tf173 tf174 tf175 tf176 tf177 tf178 tf179 tf180 tf181 tf182 tf183 tf184 tf185 tf186 tf187 tf188 tf189 tf190 tf191 tf192 tf193 tf194 tf195 tf196 tf197 tf198 tf199 tf200 tf201 tf202 tf203 tf204 tf205 tf206 tf207 tf208 tf209 tf210 tf211 tf212 tf213 tf214 tf215 tf216 tf217 tf218 tf219 tf220 tf221 tf222 tf223 tf224 tf225 tf226 tf227 tf228 tf229 tf230 tf231 tf232 tf233 tf234 tf235 tf236 tf237 tf238 tf239 tf240 tf241 tf242 tf243 tf244 tf245 tf246 tf247 tf248 tf249 tf250 tf251 tf252
attribute [local go_sem] List.length_map rowAt_n nrow rowAt_t trow rowAt_i irow
attribute [local go_sem] for_put for_put' for_look for_look'
theorem ful_w (n : Nd) (t : Ts) : PCall Try.prog (.func 85) [.ag (nrow n), .ag (trow t)] (.bool (fuB n t)) := by
  refine PCall.le ?_
  refine fn_ Try.func85 (by rfl) (by rfl) (rs := [.tmp 4]) (by rfl) (by simp [Try.f85]) ?_
  refine sq ?_
  refine rg [2, 3] [2, 3] [] (by kernel_rfl) ?_; intro κ ξ hκ hξ
  try simp (config := { decide := true }) only [go_sem, Nat.reduceMul, Nat.reduceAdd, Nat.reduceBEq, cond_false]
  repeat with_reducible refine And.intro (by first | assumption | omega | (simp; done) | (simp; omega) | (intro hg; simp (config := { decide := true }) only [go_sem, hg]; done) | (intro hg; simp (config := { decide := true }) only [go_sem, hg]; omega)) ?_
  refine hκ _ _ ?_; clear hκ hξ ξ κ
  refine sq ?_
  refine rg [2, 3, 5] [] [] (by kernel_rfl) ?_; intro κ ξ hκ hξ
  try simp (config := { decide := true }) only [go_sem, Nat.reduceMul, Nat.reduceAdd, Nat.reduceBEq, cond_false]
  repeat with_reducible refine And.intro (by first | assumption | omega | (simp; done) | (simp; omega) | (intro hg; simp (config := { decide := true }) only [go_sem, hg]; done) | (intro hg; simp (config := { decide := true }) only [go_sem, hg]; omega)) ?_
  intro b5 hb5
  try simp (config := { decide := true }) only [go_sem, Nat.reduceMul, Nat.reduceAdd, Nat.reduceBEq, cond_false, hb5]
  repeat with_reducible refine And.intro (by first | assumption | omega | (simp; done) | (simp; omega) | (intro hg; simp (config := { decide := true }) only [go_sem, hg]; done) | (intro hg; simp (config := { decide := true }) only [go_sem, hg]; omega)) ?_
  refine hκ _ _ ?_; clear hκ hξ ξ κ
  refine sq ?_
  refine sq ?_
  refine rg [2, 3, 5, 11] [] [] (by kernel_rfl) ?_; intro κ ξ hκ hξ
  try simp (config := { decide := true }) only [go_sem, Nat.reduceMul, Nat.reduceAdd, Nat.reduceBEq, cond_false, hb5]
  repeat with_reducible refine And.intro (by first | assumption | omega | (simp; done) | (simp; omega) | (intro hg; simp (config := { decide := true }) only [go_sem, hg]; done) | (intro hg; simp (config := { decide := true }) only [go_sem, hg]; omega)) ?_
  refine hκ _ _ ?_; clear hκ hξ ξ κ
  refine cd (by rfl) (fun c0 => ?_) (fun c0 => ?_)
  · try simp only [go_sem] at c0
    refine rg [2, 3, 5] [] [] (by kernel_rfl) ?_; intro κ ξ hκ hξ
    try simp (config := { decide := true }) only [go_sem, Nat.reduceMul, Nat.reduceAdd, Nat.reduceBEq, cond_false, hb5, c0]
    repeat with_reducible refine And.intro (by first | assumption | omega | (simp; done) | (simp; omega) | (intro hg; simp (config := { decide := true }) only [go_sem, hg]; done) | (intro hg; simp (config := { decide := true }) only [go_sem, hg]; omega)) ?_
    refine hκ _ _ ?_; clear hκ hξ ξ κ
    refine sq ?_
    refine sq ?_
    refine rg [2, 3, 5, 17] [] [] (by kernel_rfl) ?_; intro κ ξ hκ hξ
    try simp (config := { decide := true }) only [go_sem, Nat.reduceMul, Nat.reduceAdd, Nat.reduceBEq, cond_false, hb5, c0]
    repeat with_reducible refine And.intro (by first | assumption | omega | (simp; done) | (simp; omega) | (intro hg; simp (config := { decide := true }) only [go_sem, hg]; done) | (intro hg; simp (config := { decide := true }) only [go_sem, hg]; omega)) ?_
    refine hκ _ _ ?_; clear hκ hξ ξ κ
    refine cd (by rfl) (fun c1 => ?_) (fun c1 => ?_)
    · try simp only [go_sem] at c1
      refine rg [2, 3, 5] [] [] (by kernel_rfl) ?_; intro κ ξ hκ hξ
      try simp (config := { decide := true }) only [go_sem, Nat.reduceMul, Nat.reduceAdd, Nat.reduceBEq, cond_false, hb5, c0, c1]
      repeat with_reducible refine And.intro (by first | assumption | omega | (simp; done) | (simp; omega) | (intro hg; simp (config := { decide := true }) only [go_sem, hg]; done) | (intro hg; simp (config := { decide := true }) only [go_sem, hg]; omega)) ?_
      refine hκ _ _ ?_; clear hκ hξ ξ κ
      refine sq ?_
      refine sq ?_
      refine rg [2, 3, 5, 23] [] [] (by kernel_rfl) ?_; intro κ ξ hκ hξ
      try simp (config := { decide := true }) only [go_sem, Nat.reduceMul, Nat.reduceAdd, Nat.reduceBEq, cond_false, hb5, c0, c1]
      repeat with_reducible refine And.intro (by first | assumption | omega | (simp; done) | (simp; omega) | (intro hg; simp (config := { decide := true }) only [go_sem, hg]; done) | (intro hg; simp (config := { decide := true }) only [go_sem, hg]; omega)) ?_
      refine hκ _ _ ?_; clear hκ hξ ξ κ
      refine cd (by rfl) (fun c2 => ?_) (fun c2 => ?_)
      · try simp only [go_sem] at c2
        refine rg [3, 5] [] [] (by kernel_rfl) ?_; intro κ ξ hκ hξ
        try simp (config := { decide := true }) only [go_sem, Nat.reduceMul, Nat.reduceAdd, Nat.reduceBEq, cond_false, hb5, c0, c1, c2]
        repeat with_reducible refine And.intro (by first | assumption | omega | (simp; done) | (simp; omega) | (intro hg; simp (config := { decide := true }) only [go_sem, hg]; done) | (intro hg; simp (config := { decide := true }) only [go_sem, hg]; omega)) ?_
        refine hκ _ _ ?_; clear hκ hξ ξ κ
        refine sq ?_
        refine rg [4] [] [] (by kernel_rfl) ?_; intro κ ξ hκ hξ
        try simp (config := { decide := true }) only [go_sem, Nat.reduceMul, Nat.reduceAdd, Nat.reduceBEq, cond_false, hb5, c0, c1, c2]
        repeat with_reducible refine And.intro (by first | assumption | omega | (simp; done) | (simp; omega) | (intro hg; simp (config := { decide := true }) only [go_sem, hg]; done) | (intro hg; simp (config := { decide := true }) only [go_sem, hg]; omega)) ?_
        refine hκ _ _ ?_; clear hκ hξ ξ κ
        refine rt ?_
        refine retE ?_
        simp (config := { decide := true }) only [go_sem, resD, resV, hb5, c0, c1, c2]
        all_goals congr 1
        all_goals unfold fuB
        all_goals rw [Bool.eq_iff_iff]
        all_goals simp [*]
        all_goals omega
      · try simp only [go_sem] at c2
        refine sk ?_
        refine sq ?_
        refine rg [4] [] [] (by kernel_rfl) ?_; intro κ ξ hκ hξ
        try simp (config := { decide := true }) only [go_sem, Nat.reduceMul, Nat.reduceAdd, Nat.reduceBEq, cond_false, hb5, c0, c1, c2]
        repeat with_reducible refine And.intro (by first | assumption | omega | (simp; done) | (simp; omega) | (intro hg; simp (config := { decide := true }) only [go_sem, hg]; done) | (intro hg; simp (config := { decide := true }) only [go_sem, hg]; omega)) ?_
        refine hκ _ _ ?_; clear hκ hξ ξ κ
        refine rt ?_
        refine retE ?_
        simp (config := { decide := true }) only [go_sem, resD, resV, hb5, c0, c1, c2]
        all_goals congr 1
        all_goals unfold fuB
        all_goals rw [Bool.eq_iff_iff]
        all_goals simp [*]
        all_goals omega
    · try simp only [go_sem] at c1
      refine sk ?_
      refine sq ?_
      refine sq ?_
      refine rg [2, 3, 5, 23] [] [] (by kernel_rfl) ?_; intro κ ξ hκ hξ
      try simp (config := { decide := true }) only [go_sem, Nat.reduceMul, Nat.reduceAdd, Nat.reduceBEq, cond_false, hb5, c0, c1]
      repeat with_reducible refine And.intro (by first | assumption | omega | (simp; done) | (simp; omega) | (intro hg; simp (config := { decide := true }) only [go_sem, hg]; done) | (intro hg; simp (config := { decide := true }) only [go_sem, hg]; omega)) ?_
      refine hκ _ _ ?_; clear hκ hξ ξ κ
      refine cd (by rfl) (fun c3 => ?_) (fun c3 => ?_)
      · try simp only [go_sem] at c3
        refine rg [3, 5] [] [] (by kernel_rfl) ?_; intro κ ξ hκ hξ
        try simp (config := { decide := true }) only [go_sem, Nat.reduceMul, Nat.reduceAdd, Nat.reduceBEq, cond_false, hb5, c0, c1, c3]
        repeat with_reducible refine And.intro (by first | assumption | omega | (simp; done) | (simp; omega) | (intro hg; simp (config := { decide := true }) only [go_sem, hg]; done) | (intro hg; simp (config := { decide := true }) only [go_sem, hg]; omega)) ?_
        refine hκ _ _ ?_; clear hκ hξ ξ κ
        refine sq ?_
        refine rg [4] [] [] (by kernel_rfl) ?_; intro κ ξ hκ hξ
        try simp (config := { decide := true }) only [go_sem, Nat.reduceMul, Nat.reduceAdd, Nat.reduceBEq, cond_false, hb5, c0, c1, c3]
        repeat with_reducible refine And.intro (by first | assumption | omega | (simp; done) | (simp; omega) | (intro hg; simp (config := { decide := true }) only [go_sem, hg]; done) | (intro hg; simp (config := { decide := true }) only [go_sem, hg]; omega)) ?_
        refine hκ _ _ ?_; clear hκ hξ ξ κ
        refine rt ?_
        refine retE ?_
        simp (config := { decide := true }) only [go_sem, resD, resV, hb5, c0, c1, c3]
        all_goals congr 1
        all_goals unfold fuB
        all_goals rw [Bool.eq_iff_iff]
        all_goals simp [*]
        all_goals omega
      · try simp only [go_sem] at c3
        refine sk ?_
        refine sq ?_
        refine rg [4] [] [] (by kernel_rfl) ?_; intro κ ξ hκ hξ
        try simp (config := { decide := true }) only [go_sem, Nat.reduceMul, Nat.reduceAdd, Nat.reduceBEq, cond_false, hb5, c0, c1, c3]
        repeat with_reducible refine And.intro (by first | assumption | omega | (simp; done) | (simp; omega) | (intro hg; simp (config := { decide := true }) only [go_sem, hg]; done) | (intro hg; simp (config := { decide := true }) only [go_sem, hg]; omega)) ?_
        refine hκ _ _ ?_; clear hκ hξ ξ κ
        refine rt ?_
        refine retE ?_
        simp (config := { decide := true }) only [go_sem, resD, resV, hb5, c0, c1, c3]
        all_goals congr 1
        all_goals unfold fuB
        all_goals rw [Bool.eq_iff_iff]
        all_goals simp [*]
        all_goals omega
  · try simp only [go_sem] at c0
    refine sk ?_
    refine sq ?_
    refine sq ?_
    refine rg [2, 3, 5, 17] [] [] (by kernel_rfl) ?_; intro κ ξ hκ hξ
    try simp (config := { decide := true }) only [go_sem, Nat.reduceMul, Nat.reduceAdd, Nat.reduceBEq, cond_false, hb5, c0]
    repeat with_reducible refine And.intro (by first | assumption | omega | (simp; done) | (simp; omega) | (intro hg; simp (config := { decide := true }) only [go_sem, hg]; done) | (intro hg; simp (config := { decide := true }) only [go_sem, hg]; omega)) ?_
    refine hκ _ _ ?_; clear hκ hξ ξ κ
    refine cd (by rfl) (fun c4 => ?_) (fun c4 => ?_)
    · try simp only [go_sem] at c4
      refine rg [2, 3, 5] [] [] (by kernel_rfl) ?_; intro κ ξ hκ hξ
      try simp (config := { decide := true }) only [go_sem, Nat.reduceMul, Nat.reduceAdd, Nat.reduceBEq, cond_false, hb5, c0, c4]
      repeat with_reducible refine And.intro (by first | assumption | omega | (simp; done) | (simp; omega) | (intro hg; simp (config := { decide := true }) only [go_sem, hg]; done) | (intro hg; simp (config := { decide := true }) only [go_sem, hg]; omega)) ?_
      refine hκ _ _ ?_; clear hκ hξ ξ κ
      refine sq ?_
      refine sq ?_
      refine rg [2, 3, 5, 23] [] [] (by kernel_rfl) ?_; intro κ ξ hκ hξ
      try simp (config := { decide := true }) only [go_sem, Nat.reduceMul, Nat.reduceAdd, Nat.reduceBEq, cond_false, hb5, c0, c4]
      repeat with_reducible refine And.intro (by first | assumption | omega | (simp; done) | (simp; omega) | (intro hg; simp (config := { decide := true }) only [go_sem, hg]; done) | (intro hg; simp (config := { decide := true }) only [go_sem, hg]; omega)) ?_
      refine hκ _ _ ?_; clear hκ hξ ξ κ
      refine cd (by rfl) (fun c5 => ?_) (fun c5 => ?_)
      · try simp only [go_sem] at c5
        refine rg [3, 5] [] [] (by kernel_rfl) ?_; intro κ ξ hκ hξ
        try simp (config := { decide := true }) only [go_sem, Nat.reduceMul, Nat.reduceAdd, Nat.reduceBEq, cond_false, hb5, c0, c4, c5]
        repeat with_reducible refine And.intro (by first | assumption | omega | (simp; done) | (simp; omega) | (intro hg; simp (config := { decide := true }) only [go_sem, hg]; done) | (intro hg; simp (config := { decide := true }) only [go_sem, hg]; omega)) ?_
        refine hκ _ _ ?_; clear hκ hξ ξ κ
        refine sq ?_
        refine rg [4] [] [] (by kernel_rfl) ?_; intro κ ξ hκ hξ
        try simp (config := { decide := true }) only [go_sem, Nat.reduceMul, Nat.reduceAdd, Nat.reduceBEq, cond_false, hb5, c0, c4, c5]
        repeat with_reducible refine And.intro (by first | assumption | omega | (simp; done) | (simp; omega) | (intro hg; simp (config := { decide := true }) only [go_sem, hg]; done) | (intro hg; simp (config := { decide := true }) only [go_sem, hg]; omega)) ?_
        refine hκ _ _ ?_; clear hκ hξ ξ κ
        refine rt ?_
        refine retE ?_
        simp (config := { decide := true }) only [go_sem, resD, resV, hb5, c0, c4, c5]
        all_goals congr 1
        all_goals unfold fuB
        all_goals rw [Bool.eq_iff_iff]
        all_goals simp [*]
        all_goals omega
      · try simp only [go_sem] at c5
        refine sk ?_
        refine sq ?_
        refine rg [4] [] [] (by kernel_rfl) ?_; intro κ ξ hκ hξ
        try simp (config := { decide := true }) only [go_sem, Nat.reduceMul, Nat.reduceAdd, Nat.reduceBEq, cond_false, hb5, c0, c4, c5]
        repeat with_reducible refine And.intro (by first | assumption | omega | (simp; done) | (simp; omega) | (intro hg; simp (config := { decide := true }) only [go_sem, hg]; done) | (intro hg; simp (config := { decide := true }) only [go_sem, hg]; omega)) ?_
        refine hκ _ _ ?_; clear hκ hξ ξ κ
        refine rt ?_
        refine retE ?_
        simp (config := { decide := true }) only [go_sem, resD, resV, hb5, c0, c4, c5]
        all_goals congr 1
        all_goals unfold fuB
        all_goals rw [Bool.eq_iff_iff]
        all_goals simp [*]
        all_goals omega
    · try simp only [go_sem] at c4
      refine sk ?_
      refine sq ?_
      refine sq ?_
      refine rg [2, 3, 5, 23] [] [] (by kernel_rfl) ?_; intro κ ξ hκ hξ
      try simp (config := { decide := true }) only [go_sem, Nat.reduceMul, Nat.reduceAdd, Nat.reduceBEq, cond_false, hb5, c0, c4]
      repeat with_reducible refine And.intro (by first | assumption | omega | (simp; done) | (simp; omega) | (intro hg; simp (config := { decide := true }) only [go_sem, hg]; done) | (intro hg; simp (config := { decide := true }) only [go_sem, hg]; omega)) ?_
      refine hκ _ _ ?_; clear hκ hξ ξ κ
      refine cd (by rfl) (fun c6 => ?_) (fun c6 => ?_)
      · try simp only [go_sem] at c6
        refine rg [3, 5] [] [] (by kernel_rfl) ?_; intro κ ξ hκ hξ
        try simp (config := { decide := true }) only [go_sem, Nat.reduceMul, Nat.reduceAdd, Nat.reduceBEq, cond_false, hb5, c0, c4, c6]
        repeat with_reducible refine And.intro (by first | assumption | omega | (simp; done) | (simp; omega) | (intro hg; simp (config := { decide := true }) only [go_sem, hg]; done) | (intro hg; simp (config := { decide := true }) only [go_sem, hg]; omega)) ?_
        refine hκ _ _ ?_; clear hκ hξ ξ κ
        refine sq ?_
        refine rg [4] [] [] (by kernel_rfl) ?_; intro κ ξ hκ hξ
        try simp (config := { decide := true }) only [go_sem, Nat.reduceMul, Nat.reduceAdd, Nat.reduceBEq, cond_false, hb5, c0, c4, c6]
        repeat with_reducible refine And.intro (by first | assumption | omega | (simp; done) | (simp; omega) | (intro hg; simp (config := { decide := true }) only [go_sem, hg]; done) | (intro hg; simp (config := { decide := true }) only [go_sem, hg]; omega)) ?_
        refine hκ _ _ ?_; clear hκ hξ ξ κ
        refine rt ?_
        refine retE ?_
        simp (config := { decide := true }) only [go_sem, resD, resV, hb5, c0, c4, c6]
        all_goals congr 1
        all_goals unfold fuB
        all_goals rw [Bool.eq_iff_iff]
        all_goals simp [*]
        all_goals omega
      · try simp only [go_sem] at c6
        refine sk ?_
        refine sq ?_
        refine rg [4] [] [] (by kernel_rfl) ?_; intro κ ξ hκ hξ
        try simp (config := { decide := true }) only [go_sem, Nat.reduceMul, Nat.reduceAdd, Nat.reduceBEq, cond_false, hb5, c0, c4, c6]
        repeat with_reducible refine And.intro (by first | assumption | omega | (simp; done) | (simp; omega) | (intro hg; simp (config := { decide := true }) only [go_sem, hg]; done) | (intro hg; simp (config := { decide := true }) only [go_sem, hg]; omega)) ?_
        refine hκ _ _ ?_; clear hκ hξ ξ κ
        refine rt ?_
        refine retE ?_
        simp (config := { decide := true }) only [go_sem, resD, resV, hb5, c0, c4, c6]
        all_goals congr 1
        all_goals unfold fuB
        all_goals rw [Bool.eq_iff_iff]
        all_goals simp [*]
        all_goals omega

theorem prep_w (l : List Nd) (ts : List Ts) (t u : Tok) : RCall Try.prog (.func 53) [.sl 5 (l.map nrow) t, .sl 4 (ts.map trow) u] [] (fun (b : Nat) => .tup [.mp b, .bool (selB ts && treB l)]) (fun (b : Nat) => [(b, .map (forE (forL l)))]) (fun (b : Nat) => True) := by
  refine RCall.ok fun hok => ?_
  simp only [okAll, D.ok, okRows, and_true, true_and, lim_eq, inR_i64', inR_i32', inR_u8', inR_u16', inR_u64'] at hok
  obtain ⟨hl, hr⟩ := hok; rw [List.length_map] at hl
  refine fn_ Try.func53 (by rfl) (by rfl) (rs := [.tmp 4, .tmp 5]) (by rfl) (by simp [Try.f53]) ?_
  refine sq ?_
  refine rg [0, 1] [] [] (by kernel_rfl) ?_; intro κ ξ hκ hξ
  try simp (config := { decide := true }) only [go_sem, Nat.reduceMul, Nat.reduceAdd, Nat.reduceBEq, cond_false]
  repeat with_reducible refine And.intro (by first | assumption | omega | (simp; done) | (simp; omega) | (intro hg; simp (config := { decide := true }) only [go_sem, hg]; done) | (intro hg; simp (config := { decide := true }) only [go_sem, hg]; omega)) ?_
  refine hκ _ _ ?_; clear hκ hξ ξ κ
  refine sq ?_
  refine rg [0, 1, 6] [] [] (by kernel_rfl) ?_; intro κ ξ hκ hξ
  try simp (config := { decide := true }) only [go_sem, Nat.reduceMul, Nat.reduceAdd, Nat.reduceBEq, cond_false]
  repeat with_reducible refine And.intro (by first | assumption | omega | (simp; done) | (simp; omega) | (intro hg; simp (config := { decide := true }) only [go_sem, hg]; done) | (intro hg; simp (config := { decide := true }) only [go_sem, hg]; omega)) ?_
  intro b9 hb9
  try simp (config := { decide := true }) only [go_sem, Nat.reduceMul, Nat.reduceAdd, Nat.reduceBEq, cond_false, hb9]
  repeat with_reducible refine And.intro (by first | assumption | omega | (simp; done) | (simp; omega) | (intro hg; simp (config := { decide := true }) only [go_sem, hg]; done) | (intro hg; simp (config := { decide := true }) only [go_sem, hg]; omega)) ?_
  refine hκ _ _ ?_; clear hκ hξ ξ κ
  refine sq ?_
  refine sq ?_
  refine rg [0, 1, 6, 10, 11, 12] [] [] (by kernel_rfl) ?_; intro κ ξ hκ hξ
  try simp (config := { decide := true }) only [go_sem, Nat.reduceMul, Nat.reduceAdd, Nat.reduceBEq, cond_false, hb9]
  repeat with_reducible refine And.intro (by first | assumption | omega | (simp; done) | (simp; omega) | (intro hg; simp (config := { decide := true }) only [go_sem, hg]; done) | (intro hg; simp (config := { decide := true }) only [go_sem, hg]; omega)) ?_
  refine hκ _ _ ?_; clear hκ hξ ξ κ
  refine bl ?_
  refine lp (α := Nat) (fun i => mk [(0, .sl 5 (l.map nrow) t), (1, .sl 4 (ts.map trow) u), (6, .mp b9), (10, .sl 5 (l.map nrow) t), (11, .int .i64 l.length), (12, .int .i64 i)]) (fun i => [(b9, .map (forE (forL (l.take i))))]) (fun i => i ≤ l.length) (fun i => l.length - i) 0 ⟨by omega, EnvLe.of_eq rfl, .refl _⟩ ?_
  intro i hi
  refine sq ?_
  refine rg [0, 1, 6, 10, 11, 12, 13] [] [] (by kernel_rfl) ?_; intro κ ξ hκ hξ
  try simp (config := { decide := true }) only [go_sem, Nat.reduceMul, Nat.reduceAdd, Nat.reduceBEq, cond_false, hb9]
  repeat with_reducible refine And.intro (by first | assumption | omega | (simp; done) | (simp; omega) | (intro hg; simp (config := { decide := true }) only [go_sem, hg]; done) | (intro hg; simp (config := { decide := true }) only [go_sem, hg]; omega)) ?_
  refine hκ _ _ ?_; clear hκ hξ ξ κ
  refine sq ?_
  refine cd (by rfl) (fun c0 => ?_) (fun c0 => ?_)
  · try simp only [go_sem] at c0
    refine sk ?_
    refine sq ?_
    refine bl ?_
    refine sq ?_
    refine rgz [(8, [])] [0, 1, 6, 8, 10, 11, 12] [] [] (by kernel_rfl) ?_; intro κ ξ hκ hξ
    try simp (config := { decide := true }) only [go_sem, Nat.reduceMul, Nat.reduceAdd, Nat.reduceBEq, cond_false, hb9, c0]
    repeat with_reducible refine And.intro (by first | assumption | omega | (simp; done) | (simp; omega) | (intro hg; simp (config := { decide := true }) only [go_sem, hg]; done) | (intro hg; simp (config := { decide := true }) only [go_sem, hg]; omega)) ?_
    intro b8 hb8
    try simp (config := { decide := true }) only [go_sem, Nat.reduceMul, Nat.reduceAdd, Nat.reduceBEq, cond_false, hb9, c0, hb8]
    repeat with_reducible refine And.intro (by first | assumption | omega | (simp; done) | (simp; omega) | (intro hg; simp (config := { decide := true }) only [go_sem, hg]; done) | (intro hg; simp (config := { decide := true }) only [go_sem, hg]; omega)) ?_
    refine hκ _ _ ?_; clear hκ hξ ξ κ
    refine rg [0, 1, 6, 10, 11, 12] [] [] (by kernel_rfl) ?_; intro κ ξ hκ hξ
    try simp (config := { decide := true }) only [go_sem, Nat.reduceMul, Nat.reduceAdd, Nat.reduceBEq, cond_false, hb9, c0, hb8]
    repeat with_reducible refine And.intro (by first | assumption | omega | (simp; done) | (simp; omega) | (intro hg; simp (config := { decide := true }) only [go_sem, hg]; done) | (intro hg; simp (config := { decide := true }) only [go_sem, hg]; omega)) ?_
    refine hκ _ _ ?_; clear hκ hξ ξ κ
    refine rg [0, 1, 6, 10, 11, 12] [] [] (by kernel_rfl) ?_; intro κ ξ hκ hξ
    try simp (config := { decide := true }) only [go_sem, Nat.reduceMul, Nat.reduceAdd, Nat.reduceBEq, cond_false, hb9, c0, hb8]
    repeat with_reducible refine And.intro (by first | assumption | omega | (simp; done) | (simp; omega) | (intro hg; simp (config := { decide := true }) only [go_sem, hg]; done) | (intro hg; simp (config := { decide := true }) only [go_sem, hg]; omega)) ?_
    refine hκ _ _ ?_; clear hκ hξ ξ κ
    refine ⟨i + 1, ⟨by omega, by omega⟩, EnvLe.of_eq (by rw [w64 (by omega)]; rfl), ?_⟩
    rw [forL_take (by omega)]; exact .refl _
  · try simp only [go_sem] at c0
    refine ex ?_
    refine sq ?_
    refine rg [4, 5] [] [(3, 24)] (by kernel_rfl) ?_; intro κ ξ hκ hξ
    try simp (config := { decide := true }) only [go_sem, Nat.reduceMul, Nat.reduceAdd, Nat.reduceBEq, cond_false, hb9, c0]
    repeat with_reducible refine And.intro (by first | assumption | omega | (simp; done) | (simp; omega) | (intro hg; simp (config := { decide := true }) only [go_sem, hg]; done) | (intro hg; simp (config := { decide := true }) only [go_sem, hg]; omega)) ?_
    refine callF (sel_w _ _) ?_
    try simp (config := { decide := true }) only [go_sem, Nat.reduceMul, Nat.reduceAdd, Nat.reduceBEq, cond_false, hb9, c0]
    repeat with_reducible refine And.intro (by first | assumption | omega | (simp; done) | (simp; omega) | (intro hg; simp (config := { decide := true }) only [go_sem, hg]; done) | (intro hg; simp (config := { decide := true }) only [go_sem, hg]; omega)) ?_
    refine vo_gc ?_; simp (config := { decide := true }) only [go_sem, hb9, c0]; refine gcallF (fun hg => ⟨by first | rfl | (simp (config := { decide := true }) only [go_sem, hg, hb9, c0]; done) | exact hg | simpa using hg, tre_w _ _⟩) ?_
    try simp (config := { decide := true }) only [go_sem, Nat.reduceMul, Nat.reduceAdd, Nat.reduceBEq, cond_false, hb9, c0]
    repeat with_reducible refine And.intro (by first | assumption | omega | (simp; done) | (simp; omega) | (intro hg; simp (config := { decide := true }) only [go_sem, hg]; done) | (intro hg; simp (config := { decide := true }) only [go_sem, hg]; omega)) ?_
    refine hκ _ _ ?_; clear hκ hξ ξ κ
    have hil : i = l.length := by omega
    subst hil
    rw [List.take_length]
    refine rt ?_
    refine retR (b9) ?_ ?_ ?_
    · first | exact .refl _ | exact List.nil_sublist _ | exact List.sublist_cons_of_sublist _ (.refl _) | exact ((List.Sublist.refl _).cons _).cons _ | (simp [*]; done) | skip
    · first | trivial | assumption | omega | (simp; done) | skip
    simp (config := { decide := true }) only [go_sem, resD, resV, hb9, c0]
    all_goals simp

theorem above_w (n : Nd) (bm : Nat) : RCall Try.prog (.func 86) [.mp bm, .ag (nrow n)] [] (fun (b : Nat) => .fn (.func 97) [] [.ptr b 0, .el [.mp bm]]) (fun (b : Nat) => [(b, .cells (nrow n))]) (fun (b : Nat) => True) := by
  refine fn_ Try.func86 (by rfl) (by rfl) (rs := [.tmp 4]) (by rfl) (by simp [Try.f86]) ?_
  refine sq ?_
  refine rg [2, 3] [2] [] (by kernel_rfl) ?_; intro κ ξ hκ hξ
  try simp (config := { decide := true }) only [go_sem, Nat.reduceMul, Nat.reduceAdd, Nat.reduceBEq, cond_false]
  repeat with_reducible refine And.intro (by first | assumption | omega | (simp; done) | (simp; omega) | (intro hg; simp (config := { decide := true }) only [go_sem, hg]; done) | (intro hg; simp (config := { decide := true }) only [go_sem, hg]; omega)) ?_
  intro b3 hb3
  try simp (config := { decide := true }) only [go_sem, Nat.reduceMul, Nat.reduceAdd, Nat.reduceBEq, cond_false, hb3]
  repeat with_reducible refine And.intro (by first | assumption | omega | (simp; done) | (simp; omega) | (intro hg; simp (config := { decide := true }) only [go_sem, hg]; done) | (intro hg; simp (config := { decide := true }) only [go_sem, hg]; omega)) ?_
  refine hκ _ _ ?_; clear hκ hξ ξ κ
  refine sq ?_
  refine rg [4] [] [] (by kernel_rfl) ?_; intro κ ξ hκ hξ
  try simp (config := { decide := true }) only [go_sem, Nat.reduceMul, Nat.reduceAdd, Nat.reduceBEq, cond_false, hb3]
  repeat with_reducible refine And.intro (by first | assumption | omega | (simp; done) | (simp; omega) | (intro hg; simp (config := { decide := true }) only [go_sem, hg]; done) | (intro hg; simp (config := { decide := true }) only [go_sem, hg]; omega)) ?_
  refine hκ _ _ ?_; clear hκ hξ ξ κ
  refine rt ?_
  refine retR (b3) ?_ ?_ ?_
  · first | exact .refl _ | exact List.nil_sublist _ | exact List.sublist_cons_of_sublist _ (.refl _) | exact ((List.Sublist.refl _).cons _).cons _ | (simp [*]; done) | skip
  · first | trivial | assumption | omega | (simp; done) | skip
  simp (config := { decide := true }) only [go_sem, resD, resV, hb3]
  all_goals simp

theorem above1_w (l : List Nd) (hT : Tree l) (i : Nat) (hi : i < l.length) (bn bm : Nat) (hne : ¬ bm = bn) (τ : Store) (y : Fn) (Jx : Store → Prop) (A : Nat → Prop) (hA : A 0) (hy : ∀ (z : List D) (j x : Nat), (chn l i)[j]? = some x → A j → ACall Try.prog y [.ag (nrow (nat l x))] ((bn, .cells z) :: (bm, .map (forE (forL l))) :: τ) fun r τ' => (r = .ret (.bool true) ∧ A (j + 1) ∧ τ' = (bn, .cells z) :: (bm, .map (forE (forL l))) :: τ) ∨ (r = .ret (.bool false) ∧ Jx τ')) : ACall Try.prog (.func 97) [.fn y [] [], .ptr bn 0, .el [.mp bm]] ((bn, .cells (nrow (nat l i))) :: (bm, .map (forE (forL l))) :: τ) (fun r τ' => (∃ d, r = .ret d) ∧ ((∃ z, τ' = (bn, .cells z) :: (bm, .map (forE (forL l))) :: τ ∧ A (chn l i).length) ∨ Jx τ')) := by
  have hne' : ¬ bn = bm := fun e => hne e.symm
  have hfg := for_get hT
  refine fn_ Try.func97 (by rfl) (by rfl) (rs := []) (by rfl) (by simp [Try.f97]) ?_
  refine bl ?_
  refine lp (α := Nat) (fun j => mk [(0, .fn y [] []), (1, .ptr bn 0), (2, .el [.mp bm])]) (fun j => (bn, .cells (nrow (nat l (cur l i j)))) :: (bm, .map (forE (forL l))) :: τ) (fun j => j ≤ (chn l i).length ∧ A j) (fun j => (chn l i).length - j) 0 ⟨⟨by omega, hA⟩, EnvLe.of_eq rfl, .refl _⟩ ?_
  rintro j ⟨hj, hAj⟩
  obtain ⟨hcp, hcl⟩ := cur_pix (l := l) (i := i) hj
  have hup := up_pix hT (show cur l i j < l.length by omega)
  have hpz := par_zero hT (show cur l i j < l.length by omega)
  refine sq ?_
  refine sq ?_
  refine rg [0, 1, 2, 6] [] [] (by kernel_rfl) ?_; intro κ ξ hκ hξ
  try simp (config := { decide := true }) only [go_sem, Nat.reduceMul, Nat.reduceAdd, Nat.reduceBEq, cond_false, hne, hne', hfg]
  repeat with_reducible refine And.intro (by first | assumption | omega | (simp; done) | (simp; omega) | (intro hg; simp (config := { decide := true }) only [go_sem, hg]; done) | (intro hg; simp (config := { decide := true }) only [go_sem, hg]; omega)) ?_
  refine hκ _ _ ?_; clear hκ hξ ξ κ
  refine cd (by rfl) (fun c0 => ?_) (fun c0 => ?_)
  · simp only [go_sem] at c0
    obtain ⟨x, hx, hux⟩ : ∃ x : Nat, (chn l i)[j]? = some x ∧ upc (chn l i) j = (x : Int) := upc_pos (by rw [← hcp]; by_cases h : 0 ≤ pix l (cur l i j); exact h; exact absurd (hpz.2 h) c0)
    have hnk : ndk l (nat l (cur l i j)).par = nat l x := by
      unfold ndk
      rw [hup, hcp, hux, if_pos (by omega), Int.toNat_natCast]
    have hge : 0 ≤ idx l (nat l (cur l i j)).par := by rw [hup, hcp, hux]; omega
    refine sk ?_
    refine bl ?_
    refine sq ?_
    refine rg [0, 1, 2] [] [] (by kernel_rfl) ?_; intro κ ξ hκ hξ
    try simp (config := { decide := true }) only [go_sem, Nat.reduceMul, Nat.reduceAdd, Nat.reduceBEq, cond_false, hne, hne', hfg, c0, hnk, hge, if_true, lookD_fs]
    repeat with_reducible refine And.intro (by first | assumption | omega | (simp; done) | (simp; omega) | (intro hg; simp (config := { decide := true }) only [go_sem, hg]; done) | (intro hg; simp (config := { decide := true }) only [go_sem, hg]; omega)) ?_
    refine hκ _ _ ?_; clear hκ hξ ξ κ
    refine sq ?_
    refine rg [0, 1, 2, 14] [] [] (by kernel_rfl) ?_; intro κ ξ hκ hξ
    try simp (config := { decide := true }) only [go_sem, Nat.reduceMul, Nat.reduceAdd, Nat.reduceBEq, cond_false, hne, hne', hfg, c0, hnk, hge, if_true, lookD_fs]
    repeat with_reducible refine And.intro (by first | assumption | omega | (simp; done) | (simp; omega) | (intro hg; simp (config := { decide := true }) only [go_sem, hg]; done) | (intro hg; simp (config := { decide := true }) only [go_sem, hg]; omega)) ?_
    refine callY (hy _ j x hx hAj) ?_
    intro bb τ2 ht hf
    try simp (config := { decide := true }) only [go_sem, Nat.reduceMul, Nat.reduceAdd, Nat.reduceBEq, cond_false, hne, hne', hfg, c0, hnk, hge, if_true, lookD_fs]
    repeat with_reducible refine And.intro (by first | assumption | omega | (simp; done) | (simp; omega) | (intro hg; simp (config := { decide := true }) only [go_sem, hg]; done) | (intro hg; simp (config := { decide := true }) only [go_sem, hg]; omega)) ?_
    refine hκ _ _ ?_; clear hκ hξ ξ κ
    refine cd (by rfl) (fun c1 => ?_) (fun c1 => ?_)
    · try simp only [go_sem] at c1
      refine rt ?_
      exact ⟨trivial, _, .refl _, ⟨_, rfl⟩, .inr (hf (by simpa using c1))⟩
    · try simp only [go_sem] at c1
      refine sk ?_
      have hjl := (List.getElem?_eq_some_iff.1 hx).1
      obtain ⟨hA1, rfl⟩ := ht (by simpa using c1)
      refine ⟨j + 1, ⟨⟨by omega, hA1⟩, by omega⟩, EnvLe.of_l ⟨rfl, rfl, rfl, trivial⟩, ?_⟩
      rw [cur_succ hx]; exact .refl _
  · simp only [go_sem] at c0
    refine ex ?_
    refine ⟨trivial, _, .refl _, ⟨_, rfl⟩, .inl ⟨_, rfl, ?_⟩⟩
    have e : j = (chn l i).length := by
      have := upc_neg (c := chn l i) (j := j) (by rw [← hcp]; exact hpz.1 (by simpa using c0))
      omega
    exact e ▸ hAj

theorem mt_s (l : List Nd) (ts : List Ts) (u : Tok) (hT : Tree l) (bm bq : Nat) (hq : ¬ bm = bq) (k i : Nat) (hi : i < l.length) (hk : k + 1 ≤ ts.length) (hk8 : k ≤ 100) (ih : 0 < k → ∀ j, j < l.length → RCall Try.prog (.func 84) [.ag (nrow (nat l j)), .int .i64 ((k : Nat) : Int), .el [.sl 4 (ts.map trow) u], .el [.mp bm], .ptr bq 0] ((bm, .map (forE (forL l))) :: (bq, .cells [.fn (.func 84) [] [.el [.sl 4 (ts.map trow) u], .el [.mp bm], .ptr bq 0]]) :: []) (fun _ : Unit => .bool (mtB l ts k j)) (fun _ => ((bm, .map (forE (forL l))) :: (bq, .cells [.fn (.func 84) [] [.el [.sl 4 (ts.map trow) u], .el [.mp bm], .ptr bq 0]]) :: [])) (fun _ => True)) : RCall Try.prog (.func 84) [.ag (nrow (nat l i)), .int .i64 (((k + 1) : Nat) : Int), .el [.sl 4 (ts.map trow) u], .el [.mp bm], .ptr bq 0] ((bm, .map (forE (forL l))) :: (bq, .cells [.fn (.func 84) [] [.el [.sl 4 (ts.map trow) u], .el [.mp bm], .ptr bq 0]]) :: []) (fun _ : Unit => .bool (mtB l ts (k + 1) i)) (fun _ => ((bm, .map (forE (forL l))) :: (bq, .cells [.fn (.func 84) [] [.el [.sl 4 (ts.map trow) u], .el [.mp bm], .ptr bq 0]]) :: [])) (fun _ => True) := by
  have hkw : IntKind.wrap .i64 (((k + 1 : Nat) : Int) - 1) = (k : Int) := by rw [w64 (by omega)]; omega
  have hk1 : ((k + 1 : Nat) : Int) = (k : Int) + 1 := by omega
  have hq' : ¬ bq = bm := fun e => hq e.symm
  have hms : mtB l ts (k + 1) i = (fuB (nat l i) (tat ts k) && (decide (k = 0) || (if (tat ts k).child = true then (chn l i).take 1 else chn l i).any (mtB l ts k))) := rfl
  have hkl : (k : Int) < (ts.length : Int) := by omega
  have hkl0 : ((0 : Nat) : Int) < (ts.length : Int) := by omega
  have hkl1 : (0 : Int) < (ts.length : Int) := by omega
  refine fn_ Try.func84 (by rfl) (by rfl) (rs := [.cell 7 4]) (by rfl) (by simp [Try.f84]) ?_
  refine sq ?_
  refine rg [2, 3, 4, 5, 6, 7] [5, 6] [] (by kernel_rfl) ?_; intro κ ξ hκ hξ
  try simp (config := { decide := true }) only [go_sem, Nat.reduceMul, Nat.reduceAdd, Nat.reduceBEq, cond_false, hkw, hq, hq', hkl, hkl0, hkl1]
  repeat with_reducible refine And.intro (by first | assumption | omega | (simp; done) | (simp; omega) | (intro hg; simp (config := { decide := true }) only [go_sem, hg]; done) | (intro hg; simp (config := { decide := true }) only [go_sem, hg]; omega)) ?_
  intro b7 hb7
  try simp (config := { decide := true }) only [go_sem, Nat.reduceMul, Nat.reduceAdd, Nat.reduceBEq, cond_false, hkw, hq, hq', hkl, hkl0, hkl1, hb7]
  repeat with_reducible refine And.intro (by first | assumption | omega | (simp; done) | (simp; omega) | (intro hg; simp (config := { decide := true }) only [go_sem, hg]; done) | (intro hg; simp (config := { decide := true }) only [go_sem, hg]; omega)) ?_
  refine hκ _ _ ?_; clear hκ hξ ξ κ
  refine sq ?_
  refine sq ?_
  refine rgd [2, 3, 4, 5, 6, 7, 20] [] [15] [(8, 17)] (by kernel_rfl) (by kernel_rfl) ?_; intro κ ξ hκ hξ
  try simp (config := { decide := true }) only [go_sem, Nat.reduceMul, Nat.reduceAdd, Nat.reduceBEq, cond_false, hkw, hq, hq', hkl, hkl0, hkl1, hb7]
  repeat with_reducible refine And.intro (by first | assumption | omega | (simp; done) | (simp; omega) | (intro hg; simp (config := { decide := true }) only [go_sem, hg]; done) | (intro hg; simp (config := { decide := true }) only [go_sem, hg]; omega)) ?_
  refine scallF (ful_w _ _) ?_
  try simp (config := { decide := true }) only [go_sem, Nat.reduceMul, Nat.reduceAdd, Nat.reduceBEq, cond_false, hkw, hq, hq', hkl, hkl0, hkl1, hb7]
  repeat with_reducible refine And.intro (by first | assumption | omega | (simp; done) | (simp; omega) | (intro hg; simp (config := { decide := true }) only [go_sem, hg]; done) | (intro hg; simp (config := { decide := true }) only [go_sem, hg]; omega)) ?_
  refine hκ _ _ ?_; clear hκ hξ ξ κ
  refine cd (by rfl) (fun c0 => ?_) (fun c0 => ?_)
  · try simp only [go_sem] at c0
    refine sq ?_
    refine rgd [7] [] [28] [(2, 23)] (by kernel_rfl) (by kernel_rfl) ?_; intro κ ξ hκ hξ
    try simp (config := { decide := true }) only [go_sem, Nat.reduceMul, Nat.reduceAdd, Nat.reduceBEq, cond_false, hkw, hq, hq', hkl, hkl0, hkl1, hb7, c0]
    repeat with_reducible refine And.intro (by first | assumption | omega | (simp; done) | (simp; omega) | (intro hg; simp (config := { decide := true }) only [go_sem, hg]; done) | (intro hg; simp (config := { decide := true }) only [go_sem, hg]; omega)) ?_
    refine vd_gc (by rfl) ?_; simp (config := { decide := true }) only [go_sem, hkw, hq, hq', hkl, hkl0, hkl1, hb7, c0]; refine gcallF (fun hg => ⟨by first | rfl | (simp (config := { decide := true }) only [go_sem, hg, hkw, hq, hq', hkl, hkl0, hkl1, hb7, c0]; done) | exact hg | simpa using hg, ful_w _ _⟩) ?_
    try simp (config := { decide := true }) only [go_sem, Nat.reduceMul, Nat.reduceAdd, Nat.reduceBEq, cond_false, hkw, hq, hq', hkl, hkl0, hkl1, hb7, c0]
    repeat with_reducible refine And.intro (by first | assumption | omega | (simp; done) | (simp; omega) | (intro hg; simp (config := { decide := true }) only [go_sem, hg]; done) | (intro hg; simp (config := { decide := true }) only [go_sem, hg]; omega)) ?_
    refine hκ _ _ ?_; clear hκ hξ ξ κ
    refine rt ?_
    refine retR (()) ?_ ?_ ?_
    · first | exact .refl _ | exact List.nil_sublist _ | exact List.sublist_cons_of_sublist _ (.refl _) | exact ((List.Sublist.refl _).cons _).cons _ | (simp [*]; done) | skip
    · first | trivial | assumption | omega | (simp; done) | skip
    simp (config := { decide := true }) only [go_sem, resD, resV, hkw, hq, hq', hkl, hkl0, hkl1, hb7, c0]
    congr 1
    rw [hms]
    by_cases hk0 : k = 0
    · subst hk0; simp
    · have h1 : ¬ ((k + 1 : Nat) : Int) = 1 := by omega
      have hf := c0.resolve_right h1
      rw [hf, decide_eq_false h1]; rfl
  · try simp only [go_sem] at c0
    refine sk ?_
    refine sq ?_
    refine sq ?_
    refine rg [2, 4, 6, 7, 32] [] [] (by kernel_rfl) ?_; intro κ ξ hκ hξ
    try simp (config := { decide := true }) only [go_sem, Nat.reduceMul, Nat.reduceAdd, Nat.reduceBEq, cond_false, hkw, hq, hq', hkl, hkl0, hkl1, hb7, c0]
    repeat with_reducible refine And.intro (by first | assumption | omega | (simp; done) | (simp; omega) | (intro hg; simp (config := { decide := true }) only [go_sem, hg]; done) | (intro hg; simp (config := { decide := true }) only [go_sem, hg]; omega)) ?_
    refine callR ((above_w (nat l i) bm).frame _) fun b32 _ => ?_
    try simp (config := { decide := true }) only [go_sem, Nat.reduceMul, Nat.reduceAdd, Nat.reduceBEq, cond_false, hkw, hq, hq', hkl, hkl0, hkl1, hb7, c0]
    repeat with_reducible refine And.intro (by first | assumption | omega | (simp; done) | (simp; omega) | (intro hg; simp (config := { decide := true }) only [go_sem, hg]; done) | (intro hg; simp (config := { decide := true }) only [go_sem, hg]; omega)) ?_
    refine hκ _ _ ?_; clear hκ hξ ξ κ
    refine bl ?_
    refine nodupW fun hnd => ?_
    simp only [Store.keys, List.cons_append, List.nil_append, List.map_cons, List.map_nil, List.nodup_cons, List.mem_cons, List.not_mem_nil, or_false, not_or] at hnd
    obtain ⟨⟨hn1, hn2, hn3⟩, ⟨hn4, hn5⟩, -⟩ := hnd
    have hk0 : k ≠ 0 := by have := c0.2; omega
    have hfu := c0.1
    refine rfG (ps := [33]) (Z := List D) (nrow (nat l i)) (fun z j τ => τ = (b32, .cells z) :: (b7, .cells [.bool false]) :: ((bm, .map (forE (forL l))) :: (bq, .cells [.fn (.func 84) [] [.el [.sl 4 (ts.map trow) u], .el [.mp bm], .ptr bq 0]]) :: []) ∧ (∀ q x, q < j → (chn l i)[q]? = some x → mtB l ts k x = false) ∧ ((tat ts k).child = true → j = 0)) (fun e τ => e = .ret ∧ ∃ z, τ = (b32, .cells z) :: (b7, .cells [.bool (mtB l ts (k + 1) i)]) :: ((bm, .map (forE (forL l))) :: (bq, .cells [.fn (.func 84) [] [.el [.sl 4 (ts.map trow) u], .el [.mp bm], .ptr bq 0]]) :: [])) (by rfl) Try.func97 (by rfl) (by rfl) (xs := (chn l i).map fun x => [.ag (nrow (nat l x))]) ?_ (by intro p hp; simp at hp; subst hp; decide) (fun x hx => by simp only [List.mem_map] at hx; obtain ⟨p, _, rfl⟩ := hx; rfl) ⟨rfl, fun q x hq => by omega, fun _ => rfl⟩ ?_ ?_ ?_
    · intro y bx Jx h τ ⟨σ', e1, e2, h1⟩
      subst e2
      subst e1
      refine ACall.perm (permX _ _ _ _ _) ?_
      refine ACall.mono (above1_w l hT i hi b32 bm (fun e => hn2 e.symm) _ y Jx (fun j => (∀ q x, q < j → (chn l i)[q]? = some x → mtB l ts k x = false) ∧ ((tat ts k).child = true → j = 0)) h1 ?_) ?_
      · intro z j x hx hA
        refine ACall.perm (permX _ _ _ _ _).symm ?_
        refine ACall.mono (h z j _ (by rw [List.getElem?_map, hx]; rfl) _ ⟨_, rfl, rfl, hA⟩) ?_
        rintro r τ' (⟨rfl, σ', rfl, rfl, hA'⟩ | ⟨rfl, hj⟩)
        · exact ⟨_, permX _ _ _ _ _, .inl ⟨rfl, hA', rfl⟩⟩
        · exact ⟨_, .refl _, .inr ⟨rfl, hj⟩⟩
      · rintro r τ' ⟨hd, (⟨z, rfl, hA⟩ | hj)⟩
        · exact ⟨_, (permX _ _ _ _ _).symm, hd, .inl ⟨z, _, rfl, rfl, by rw [List.length_map]; exact hA⟩⟩
        · exact ⟨_, .refl _, hd, .inr hj⟩
    · intro z L j x' hx' τ hτ
      obtain ⟨rfl, hno, hch⟩ := hτ
      obtain ⟨x, hx, rfl⟩ : ∃ x, (chn l i)[j]? = some x ∧ x' = [.ag (nrow (nat l x))] := by
        rw [List.getElem?_map] at hx'; cases hc : (chn l i)[j]? with
          | none => rw [hc] at hx'; cases hx'
          | some x => rw [hc] at hx'; exact ⟨x, rfl, by simpa using hx'.symm⟩
      have hxi := (chn_step l i hx).2
      have hxl : x < l.length := by omega
      refine rgz [(8, [])] [2, 4, 6, 7, 8] [] [] (by kernel_rfl) ?_; intro κ ξ hκ hξ
      try simp (config := { decide := true }) only [go_sem, Nat.reduceMul, Nat.reduceAdd, Nat.reduceBEq, cond_false, hkw, hq, hq', hkl, hkl0, hkl1, hb7, c0, hn1, hn2, hn3, hn4, hn5, Ne.symm hn1, Ne.symm hn2, Ne.symm hn3, Ne.symm hn4, Ne.symm hn5]
      repeat with_reducible refine And.intro (by first | assumption | omega | (simp; done) | (simp; omega) | (intro hg; simp (config := { decide := true }) only [go_sem, hg]; done) | (intro hg; simp (config := { decide := true }) only [go_sem, hg]; omega)) ?_
      intro b8 hb8
      try simp (config := { decide := true }) only [go_sem, Nat.reduceMul, Nat.reduceAdd, Nat.reduceBEq, cond_false, hkw, hq, hq', hkl, hkl0, hkl1, hb7, c0, hn1, hn2, hn3, hn4, hn5, Ne.symm hn1, Ne.symm hn2, Ne.symm hn3, Ne.symm hn4, Ne.symm hn5, hb8]
      repeat with_reducible refine And.intro (by first | assumption | omega | (simp; done) | (simp; omega) | (intro hg; simp (config := { decide := true }) only [go_sem, hg]; done) | (intro hg; simp (config := { decide := true }) only [go_sem, hg]; omega)) ?_
      refine hκ _ _ ⟨rfl, ?_⟩; clear hκ hξ ξ κ
      refine bl ?_
      refine sq ?_
      refine sq ?_
      refine rg [2, 4, 6, 7, 38] [] [] (by kernel_rfl) ?_; intro κ ξ hκ hξ
      try simp (config := { decide := true }) only [go_sem, Nat.reduceMul, Nat.reduceAdd, Nat.reduceBEq, cond_false, hkw, hq, hq', hkl, hkl0, hkl1, hb7, c0, hn1, hn2, hn3, hn4, hn5, Ne.symm hn1, Ne.symm hn2, Ne.symm hn3, Ne.symm hn4, Ne.symm hn5, hb8]
      repeat with_reducible refine And.intro (by first | assumption | omega | (simp; done) | (simp; omega) | (intro hg; simp (config := { decide := true }) only [go_sem, hg]; done) | (intro hg; simp (config := { decide := true }) only [go_sem, hg]; omega)) ?_
      refine callR ((ih (by omega) x hxl).frameL [(b32, _), (b7, _)]) fun _ _ => ?_
      try simp (config := { decide := true }) only [go_sem, Nat.reduceMul, Nat.reduceAdd, Nat.reduceBEq, cond_false, hkw, hq, hq', hkl, hkl0, hkl1, hb7, c0, hn1, hn2, hn3, hn4, hn5, Ne.symm hn1, Ne.symm hn2, Ne.symm hn3, Ne.symm hn4, Ne.symm hn5, hb8]
      repeat with_reducible refine And.intro (by first | assumption | omega | (simp; done) | (simp; omega) | (intro hg; simp (config := { decide := true }) only [go_sem, hg]; done) | (intro hg; simp (config := { decide := true }) only [go_sem, hg]; omega)) ?_
      refine hκ _ _ ?_; clear hκ hξ ξ κ
      refine cd (by rfl) (fun c1 => ?_) (fun c1 => ?_)
      · try simp only [go_sem] at c1
        refine sq ?_
        refine rg [7] [] [] (by kernel_rfl) ?_; intro κ ξ hκ hξ
        try simp (config := { decide := true }) only [go_sem, Nat.reduceMul, Nat.reduceAdd, Nat.reduceBEq, cond_false, hkw, hq, hq', hkl, hkl0, hkl1, hb7, c0, hn1, hn2, hn3, hn4, hn5, Ne.symm hn1, Ne.symm hn2, Ne.symm hn3, Ne.symm hn4, Ne.symm hn5, hb8, c1]
        repeat with_reducible refine And.intro (by first | assumption | omega | (simp; done) | (simp; omega) | (intro hg; simp (config := { decide := true }) only [go_sem, hg]; done) | (intro hg; simp (config := { decide := true }) only [go_sem, hg]; omega)) ?_
        refine hκ _ _ ?_; clear hκ hξ ξ κ
        refine rt ?_
        have hr : mtB l ts (k + 1) i = true := by
          rw [hms, hfu, any_hit hx (by simpa using c1) hch]; simp
        exact ⟨rfl, z, by rw [hr]⟩
      · try simp only [go_sem] at c1
        refine sk ?_
        refine sq ?_
        refine rg [2, 4, 6, 7, 44] [] [] (by kernel_rfl) ?_; intro κ ξ hκ hξ
        try simp (config := { decide := true }) only [go_sem, Nat.reduceMul, Nat.reduceAdd, Nat.reduceBEq, cond_false, hkw, hq, hq', hkl, hkl0, hkl1, hb7, c0, hn1, hn2, hn3, hn4, hn5, Ne.symm hn1, Ne.symm hn2, Ne.symm hn3, Ne.symm hn4, Ne.symm hn5, hb8, c1]
        repeat with_reducible refine And.intro (by first | assumption | omega | (simp; done) | (simp; omega) | (intro hg; simp (config := { decide := true }) only [go_sem, hg]; done) | (intro hg; simp (config := { decide := true }) only [go_sem, hg]; omega)) ?_
        refine hκ _ _ ?_; clear hκ hξ ξ κ
        refine cd (by rfl) (fun c2 => ?_) (fun c2 => ?_)
        · try simp only [go_sem] at c2
          refine sq ?_
          refine rg [7] [] [] (by kernel_rfl) ?_; intro κ ξ hκ hξ
          try simp (config := { decide := true }) only [go_sem, Nat.reduceMul, Nat.reduceAdd, Nat.reduceBEq, cond_false, hkw, hq, hq', hkl, hkl0, hkl1, hb7, c0, hn1, hn2, hn3, hn4, hn5, Ne.symm hn1, Ne.symm hn2, Ne.symm hn3, Ne.symm hn4, Ne.symm hn5, hb8, c1, c2]
          repeat with_reducible refine And.intro (by first | assumption | omega | (simp; done) | (simp; omega) | (intro hg; simp (config := { decide := true }) only [go_sem, hg]; done) | (intro hg; simp (config := { decide := true }) only [go_sem, hg]; omega)) ?_
          refine hκ _ _ ?_; clear hκ hξ ξ κ
          refine rt ?_
          have hr : mtB l ts (k + 1) i = false := by
            rw [hms, hfu, any_miss (j := j + 1) (fun q y hq hy => by
              rcases Nat.lt_succ_iff_lt_or_eq.1 hq with h | rfl
              · exact hno q y h hy
              · rw [hx] at hy; cases hy; simpa using c1) (.inr ⟨by simpa using c2, by omega⟩)]
            simp [hk0]
          exact ⟨rfl, z, by rw [hr]⟩
        · try simp only [go_sem] at c2
          refine sk ?_
          refine ⟨rfl, fun q y hq hy => ?_, fun h => by simp [h] at c2⟩
          rcases Nat.lt_succ_iff_lt_or_eq.1 hq with h | rfl
          · exact hno q y h hy
          · rw [hx] at hy; cases hy; simpa using c1
    · rintro z τ ⟨rfl, hno, hch⟩
      rw [List.length_map] at hno hch
      have hr : mtB l ts (k + 1) i = false := by rw [hms, hfu, any_miss hno (.inl (Nat.le_refl _))]; simp [hk0]
      refine sq ?_
      refine rg [7] [] [] (by kernel_rfl) ?_; intro κ ξ hκ hξ
      try simp (config := { decide := true }) only [go_sem, Nat.reduceMul, Nat.reduceAdd, Nat.reduceBEq, cond_false, hkw, hq, hq', hkl, hkl0, hkl1, hb7, c0, hn1, hn2, hn3, hn4, hn5, Ne.symm hn1, Ne.symm hn2, Ne.symm hn3, Ne.symm hn4, Ne.symm hn5]
      repeat with_reducible refine And.intro (by first | assumption | omega | (simp; done) | (simp; omega) | (intro hg; simp (config := { decide := true }) only [go_sem, hg]; done) | (intro hg; simp (config := { decide := true }) only [go_sem, hg]; omega)) ?_
      refine hκ _ _ ?_; clear hκ hξ ξ κ
      refine rt ?_
      refine retR (()) ?_ ?_ ?_
      · first | exact .refl _ | exact List.nil_sublist _ | exact List.sublist_cons_of_sublist _ (.refl _) | exact ((List.Sublist.refl _).cons _).cons _ | (simp [*]; done) | skip
      · first | trivial | assumption | omega | (simp; done) | skip
      simp (config := { decide := true }) only [go_sem, resD, resV, hkw, hq, hq', hkl, hkl0, hkl1, hb7, c0, hn1, hn2, hn3, hn4, hn5, Ne.symm hn1, Ne.symm hn2, Ne.symm hn3, Ne.symm hn4, Ne.symm hn5]
      rw [hr]
    · rintro e τ ⟨rfl, z, rfl⟩ _ _
      refine retR () ?_ ?_ ?_
      · exact ((List.Sublist.refl _).cons _).cons _
      · trivial
      simp (config := { decide := true }) only [go_sem, resD, resV, hkw, hq, hq', hkl, hkl0, hkl1, hb7, c0, hn1, hn2, hn3, hn4, hn5, Ne.symm hn1, Ne.symm hn2, Ne.symm hn3, Ne.symm hn4, Ne.symm hn5]

end Go.Proofs.Ytgccnkihonmlbaa

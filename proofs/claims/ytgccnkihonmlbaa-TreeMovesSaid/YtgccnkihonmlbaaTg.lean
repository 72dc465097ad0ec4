/- The walk of Same. Printed by a tool of our own. -/
import Derived.Test.YtgccnkihonmlbaaSi
namespace Go.Proofs.Ytgccnkihonmlbaa
open Go Go.RowKit
set_option linter.unusedSimpArgs false
set_option linter.unusedVariables false
set_option maxHeartbeats 4000000
set_option maxRecDepth 100000
attribute [local go_sem ↓] vo_nil vK_eq vo_q vo_g vo_n vo_c vd_nil dK_eq eK_eq vd_q vd_g vd_n vd_st vd_c cgs_call cgs_builtin
attribute [local go_sem] Ext_refl Ext_cons
attribute [local go_sem] quiet_move quiet_assign quiet_pick quiet_binOp quiet_unOp quiet_convert quiet_field quiet_fieldAddr quiet_indexAddr quiet_index quiet_load quiet_lookup quiet_extract quiet_build quiet_makeInterface quiet_makeFunc quiet_slice quiet_nilCheck quiet_alloc isCall_alloc quiet_box isCall_box quiet_buildSlice isCall_buildSlice quiet_store isCall_store quiet_range isCall_range quiet_next isCall_next quiet_makeSlice isCall_makeSlice quiet_panic isCall_panic quiet_len quiet_cap quiet_min quiet_max quiet_append isCall_append quiet_copy isCall_copy quiet_delete isCall_delete nqk_alloc nqk_box nqk_buildSlice nqk_range nqk_next nqk_makeSlice nqk_panic nqk_makeMap nqk_entry nqk_append nqk_copy nqk_delete isSt_alloc isSt_box isSt_buildSlice isSt_range isSt_next isSt_makeSlice isSt_panic isSt_makeMap isSt_entry isSt_store isSt_mapUpdate isSt_insert isSt_append isSt_copy isSt_delete quiet_makeMap isCall_makeMap quiet_mapUpdate isCall_mapUpdate quiet_insert isCall_insert
attribute [local go_sem] argEnv qev opd put_some put_none set_at mk_cons mk_nil prune_eq D.ofV ofC_int ofC_nil ofC_str ofC_nilmap ofC_nilfunc ofC_nilptr true_and ofC_bool bop isSh ibop Bool.false_eq_true if_false if_true and_self D.core D.cg qpick isB bof gval look Option.bind_some opc cgs Op.operands List.all_cons List.all_nil Bool.and_true and_true true_imp_iff imp_self false_imp_iff beq_true beq_false beq_iff_eq decide_eq_true_eq List.map_cons List.map_nil Bool.not_eq_true' decide_eq_false_iff_not gof gq gev cond_some Option.isSome_some Bool.or_eq_true Bool.and_eq_true Bool.or_eq_false_iff Bool.and_eq_false_iff Bool.not_eq_true Bool.not_eq_false Bool.not_eq_false' ne_eq implies_true forall_const Bool.cond_true_left Bool.cond_false_right not_false_eq_true not_true_eq_false Int.toNat_natCast Int.toNat_zero
attribute [local go_sem] qbuiltin qlook ments foldI mget mput keqD keyOK lookD_s lookD_n lookD_fs lookD_fn nput agop deqF deq1 nappZ cond_true cond_false Option.getD_some Option.getD_none Option.isSome_none ite_self qindex qslice qconv qextract qfield qfaddr qiaddr qload quop qiface qbuild qnil ldC ldD ob List.drop_succ_cons take_mapr drop_mapr List.drop_zero List.take_succ_cons List.take_zero List.length_cons List.length_nil List.getElem?_cons_zero List.getElem?_cons_succ Option.map_some Option.map_none List.head?_cons
attribute [local go_sem] nev isImm List.contains_cons List.contains_nil Bool.or_false Bool.or_true D.flat D.cellsOf D.isCell Bool.or_self Bool.and_self szOf nstore Store.get Store.upd putCells nk_cons not_or FZ frzE_mk frzL inL frz Store.del or_false boxCells List.headD_cons List.headD_nil List.nil_append List.append_nil List.cons_append List.drop_nil false_and and_false false_or true_or or_true Bool.false_and Bool.true_and Bool.false_or Bool.true_or Bool.and_false setPs lim_eq chunk zrep pls_eq plsF fillD resAll shop sbop bbop decide_true decide_false Bool.not_true Bool.not_false eq_self
attribute [local go_sem] tf0 tf1 tf2 tf3 tf4 tf5 tf6 tf7 tf8 tf9 tf10 tf11 tf12 tf13 tf14 tf15 tf16 tf17 tf18 tf19 tf20 tf21 tf22 tf23 tf24 tf25 tf26 tf27 tf28 tf29 tf30 tf31 tf32 tf33 tf34 tf35 tf36 tf37 tf38 tf39 tf40 tf41 tf42 tf43 tf44 tf45 tf46 tf47 tf48 tf49 tf50 tf51 tf52 tf53 tf54 tf55 tf56 tf57 tf58 tf59 tf60 tf61 tf62 tf63 tf64 tf65 tf66 tf67 tf68 tf69 tf70 tf71 tf72 tf73 tf74 tf75 tf76 tf77 tf78 tf79 tf80 tf81 tf82 tf83 tf84 tf85 tf86 tf87 tf88 tf89 tf90 tf91 tf92 tf93 tf94 tf95 tf96 tf97 tf98 tf99 tf100 tf101 tf102 tf103 tf104 tf105 tf106 tf107 tf108 tf109 tf110 tf111 tf112 tf113 tf114 tf115 tf116 tf117 tf118 tf119 tf120 tf121 tf122 tf123 tf124 tf125 tf126 tf127 tf128 tf129 tf130 tf131 tf132 tf133 tf134 tf135 tf136 tf137 tf138 tf139 tf140 tf141 tf142 tf143 tf144 tf145 tf146 tf147 tf148 tf149 tf150 tf151 tf152 tf153 tf154 tf155 tf156 tf157 tf158 tf159 tf160 tf161 tf162 tf163 tf164 tf165 tf166 tf167 tf168 tf169 tf170 tf171 tf172 tf173 tf174 tf175 tf176 tf177 tf178 tf179 tf180 tf181 tf182 tf183 tf184 tf185 tf186 tf187 tf188 tf189 tf190 tf191 tf192 tf193 tf194 tf195 tf196 tf197 tf198 tf199 tf200 tf201 tf202 tf203 tf204 tf205 tf206 tf207 tf208 tf209 tf210 tf211 tf212 tf213 tf214 tf215 tf216 tf217 tf218 tf219 tf220 tf221 tf222 tf223 tf224 tf225 tf226 tf227 tf228 tf229 tf230 tf231 tf232 tf233 tf234 tf235 tf236 tf237 tf238 tf239 tf240 tf241 tf242 tf243 tf244 tf245 tf246 tf247 tf248 tf249 tf250 tf251 tf252
attribute [local go_sem] List.length_map rowAt_n nrow rowAt_t trow rowAt_i irow
attribute [local go_sem] for_put for_put' for_look for_look'
theorem sameN_w (a b : List Nd) (t u : Tok) : PCall Try.prog (.func 44) [.sl 5 (a.map nrow) t, .sl 5 (b.map nrow) u] (.bool (decide (a = b))) := by
  refine PCall.ok fun hok => ?_
  simp only [okAll, D.ok, okRows, and_true, true_and, lim_eq, inR_i64', inR_i32', inR_u8', inR_u16', inR_u64'] at hok
  obtain ⟨⟨ha, hra⟩, hb, hrb⟩ := hok; rw [List.length_map] at ha hb
  refine PCall.le ?_
  refine fn_ Try.func44 (by rfl) (by rfl) (rs := [.tmp 4]) (by rfl) (by simp [Try.f44]) ?_
  refine sq ?_
  refine rg [0, 1] [] [] (by kernel_rfl) ?_; intro κ ξ hκ hξ
  try simp (config := { decide := true }) only [go_sem, Nat.reduceMul, Nat.reduceAdd, Nat.reduceBEq, cond_false]
  repeat with_reducible refine And.intro (by first | assumption | omega | (simp; done) | (simp; omega) | (intro hg; simp (config := { decide := true }) only [go_sem, hg]; done) | (intro hg; simp (config := { decide := true }) only [go_sem, hg]; omega)) ?_
  refine hκ _ _ ?_; clear hκ hξ ξ κ
  refine sq ?_
  refine sq ?_
  refine rg [0, 1, 10] [] [] (by kernel_rfl) ?_; intro κ ξ hκ hξ
  try simp (config := { decide := true }) only [go_sem, Nat.reduceMul, Nat.reduceAdd, Nat.reduceBEq, cond_false]
  repeat with_reducible refine And.intro (by first | assumption | omega | (simp; done) | (simp; omega) | (intro hg; simp (config := { decide := true }) only [go_sem, hg]; done) | (intro hg; simp (config := { decide := true }) only [go_sem, hg]; omega)) ?_
  refine hκ _ _ ?_; clear hκ hξ ξ κ
  refine cd (by rfl) (fun c0 => ?_) (fun c0 => ?_)
  · simp only [go_sem] at c0
    refine sq ?_
    refine rg [4] [] [] (by kernel_rfl) ?_; intro κ ξ hκ hξ
    try simp (config := { decide := true }) only [go_sem, Nat.reduceMul, Nat.reduceAdd, Nat.reduceBEq, cond_false, c0]
    repeat with_reducible refine And.intro (by first | assumption | omega | (simp; done) | (simp; omega) | (intro hg; simp (config := { decide := true }) only [go_sem, hg]; done) | (intro hg; simp (config := { decide := true }) only [go_sem, hg]; omega)) ?_
    refine hκ _ _ ?_; clear hκ hξ ξ κ
    refine rt ?_
    refine retE ?_
    simp (config := { decide := true }) only [go_sem, resD, resV, c0]
    congr 1
    symm
    rw [decide_eq_false_iff_not]
    intro e
    rw [e] at c0
    omega
  · simp only [go_sem] at c0
    have hab : a.length = b.length := by omega
    refine sk ?_
    refine sq ?_
    refine sq ?_
    refine rg [0, 1, 5] [] [] (by kernel_rfl) ?_; intro κ ξ hκ hξ
    try simp (config := { decide := true }) only [go_sem, Nat.reduceMul, Nat.reduceAdd, Nat.reduceBEq, cond_false, c0]
    repeat with_reducible refine And.intro (by first | assumption | omega | (simp; done) | (simp; omega) | (intro hg; simp (config := { decide := true }) only [go_sem, hg]; done) | (intro hg; simp (config := { decide := true }) only [go_sem, hg]; omega)) ?_
    refine hκ _ _ ?_; clear hκ hξ ξ κ
    refine bl ?_
    refine lp (α := Nat) (fun i => mk [(0, .sl 5 (a.map nrow) t), (1, .sl 5 (b.map nrow) u), (5, .int .i64 i)]) (fun _ => []) (fun i => i ≤ a.length ∧ ∀ j, j < i → nat a j = nat b j) (fun i => a.length - i) 0 ⟨⟨by omega, by intro j hj; omega⟩, EnvLe.of_eq rfl, .refl _⟩ ?_
    rintro i ⟨hi, hj⟩
    refine sq ?_
    refine sq ?_
    refine rg [0, 1, 5, 14] [] [] (by kernel_rfl) ?_; intro κ ξ hκ hξ
    try simp (config := { decide := true }) only [go_sem, Nat.reduceMul, Nat.reduceAdd, Nat.reduceBEq, cond_false, c0]
    repeat with_reducible refine And.intro (by first | assumption | omega | (simp; done) | (simp; omega) | (intro hg; simp (config := { decide := true }) only [go_sem, hg]; done) | (intro hg; simp (config := { decide := true }) only [go_sem, hg]; omega)) ?_
    refine hκ _ _ ?_; clear hκ hξ ξ κ
    refine cd (by rfl) (fun c1 => ?_) (fun c1 => ?_)
    · simp only [go_sem] at c1
      have hbl : (i : Int) < (b.length : Int) := by omega
      refine sk ?_
      refine sq ?_
      refine bl ?_
      refine sq ?_
      refine rgd [0, 1, 5, 25] [] [] [] (by kernel_rfl) (by kernel_rfl) ?_; intro κ ξ hκ hξ
      try simp (config := { decide := true }) only [go_sem, Nat.reduceMul, Nat.reduceAdd, Nat.reduceBEq, cond_false, c0, c1, hbl]
      repeat with_reducible refine And.intro (by first | assumption | omega | (simp; done) | (simp; omega) | (intro hg; simp (config := { decide := true }) only [go_sem, hg]; done) | (intro hg; simp (config := { decide := true }) only [go_sem, hg]; omega)) ?_
      refine hκ _ _ ?_; clear hκ hξ ξ κ
      refine cd (by rfl) (fun c2 => ?_) (fun c2 => ?_)
      · try simp only [go_sem] at c2
        refine sq ?_
        refine rg [4] [] [] (by kernel_rfl) ?_; intro κ ξ hκ hξ
        try simp (config := { decide := true }) only [go_sem, Nat.reduceMul, Nat.reduceAdd, Nat.reduceBEq, cond_false, c0, c1, hbl, c2]
        repeat with_reducible refine And.intro (by first | assumption | omega | (simp; done) | (simp; omega) | (intro hg; simp (config := { decide := true }) only [go_sem, hg]; done) | (intro hg; simp (config := { decide := true }) only [go_sem, hg]; omega)) ?_
        refine hκ _ _ ?_; clear hκ hξ ξ κ
        refine rt ?_
        refine retE ?_
        simp (config := { decide := true }) only [go_sem, resD, resV, c0, c1, hbl, c2]
        congr 1
        symm
        rw [decide_eq_false_iff_not]
        refine list_ne (d := nd0) (j := i) fun e => ?_
        have e2 : nat a i = nat b i := e
        rw [e2] at c2
        simp at c2
      · try simp only [go_sem] at c2
        refine sk ?_
        refine rg [0, 1, 5] [] [] (by kernel_rfl) ?_; intro κ ξ hκ hξ
        try simp (config := { decide := true }) only [go_sem, Nat.reduceMul, Nat.reduceAdd, Nat.reduceBEq, cond_false, c0, c1, hbl, c2]
        repeat with_reducible refine And.intro (by first | assumption | omega | (simp; done) | (simp; omega) | (intro hg; simp (config := { decide := true }) only [go_sem, hg]; done) | (intro hg; simp (config := { decide := true }) only [go_sem, hg]; omega)) ?_
        refine hκ _ _ ?_; clear hκ hξ ξ κ
        refine ⟨i + 1, ⟨⟨by omega, ?_⟩, by omega⟩, EnvLe.of_eq (by rw [w64 (by omega)]; rfl), List.nil_sublist _⟩
        intro j h
        rcases Nat.lt_succ_iff_lt_or_eq.1 h with h | rfl
        · exact hj j h
        · exact (by revert c2; generalize nat a j = p; generalize nat b j = q; intro c2; cases p; cases q; simpa using c2)
    · simp only [go_sem] at c1
      refine ex ?_
      refine sq ?_
      refine rg [4] [] [] (by kernel_rfl) ?_; intro κ ξ hκ hξ
      try simp (config := { decide := true }) only [go_sem, Nat.reduceMul, Nat.reduceAdd, Nat.reduceBEq, cond_false, c0, c1]
      repeat with_reducible refine And.intro (by first | assumption | omega | (simp; done) | (simp; omega) | (intro hg; simp (config := { decide := true }) only [go_sem, hg]; done) | (intro hg; simp (config := { decide := true }) only [go_sem, hg]; omega)) ?_
      refine hκ _ _ ?_; clear hκ hξ ξ κ
      refine rt ?_
      refine retE ?_
      simp (config := { decide := true }) only [go_sem, resD, resV, c0, c1]
      congr 1
      symm
      rw [decide_eq_true_eq]
      exact list_ext (d := nd0) hab fun j h => hj j (by omega)

end Go.Proofs.Ytgccnkihonmlbaa

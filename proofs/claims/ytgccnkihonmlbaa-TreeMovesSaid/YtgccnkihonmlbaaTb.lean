/- The walk of a path. Printed by a tool of our own. -/
import Derived.Test.YtgccnkihonmlbaaTa
namespace Go.Proofs.Ytgccnkihonmlbaa
open Go Go.RowKit
set_option linter.unusedSimpArgs false
set_option linter.unusedVariables false
set_option maxHeartbeats 4000000
set_option maxRecDepth 100000
attribute [local go_sem ↓] vo_nil vK_eq vo_q vo_g vo_n vo_c vd_nil dK_eq eK_eq vd_q vd_g vd_n vd_st vd_c cgs_call cgs_builtin
attribute [local go_sem] Ext_refl Ext_cons
attribute [local go_sem] quiet_move quiet_assign quiet_pick quiet_binOp quiet_unOp quiet_convert quiet_field quiet_fieldAddr quiet_indexAddr quiet_index quiet_load quiet_lookup quiet_extract quiet_build quiet_makeInterface quiet_makeFunc quiet_slice quiet_nilCheck quiet_alloc isCall_alloc quiet_box isCall_box quiet_buildSlice isCall_buildSlice quiet_store isCall_store quiet_range isCall_range quiet_next isCall_next quiet_makeSlice isCall_makeSlice quiet_panic isCall_panic quiet_len quiet_cap quiet_min quiet_max quiet_append isCall_append quiet_copy isCall_copy quiet_delete isCall_delete nqk_alloc nqk_box nqk_buildSlice nqk_range nqk_next nqk_makeSlice nqk_panic nqk_makeMap nqk_entry nqk_append nqk_copy nqk_delete isSt_alloc isSt_box isSt_buildSlice isSt_range isSt_next isSt_makeSlice isSt_panic isSt_makeMap isSt_entry isSt_store isSt_mapUpdate isSt_insert isSt_append isSt_copy isSt_delete quiet_makeMap isCall_makeMap quiet_mapUpdate isCall_mapUpdate quiet_insert isCall_insert
attribute [local go_sem] argEnv qev opd put_some put_none set_at mk_cons mk_nil prune_eq D.ofV ofC_int ofC_nil ofC_str ofC_nilmap ofC_nilfunc ofC_nilptr true_and ofC_bool bop isSh ibop Bool.false_eq_true if_false if_true and_self D.core D.cg qpick isB bof gval look Option.bind_some opc cgs Op.operands List.all_cons List.all_nil Bool.and_true and_true true_imp_iff imp_self false_imp_iff beq_true beq_false beq_iff_eq decide_eq_true_eq List.map_cons List.map_nil Bool.not_eq_true' decide_eq_false_iff_not gof gq gev cond_some Option.isSome_some Bool.or_eq_true Bool.and_eq_true Bool.or_eq_false_iff Bool.and_eq_false_iff Bool.not_eq_true Bool.not_eq_false Bool.not_eq_false' ne_eq implies_true forall_const Bool.cond_true_left Bool.cond_false_right not_false_eq_true not_true_eq_false Int.toNat_natCast Int.toNat_zero
attribute [local go_sem] qbuiltin qlook ments foldI mget mput keqD keyOK lookD_s lookD_n lookD_fs lookD_fn nput agop deqF deq1 nappZ cond_true cond_false Option.getD_some Option.getD_none Option.isSome_none ite_self qindex qslice qconv qextract qfield qfaddr qiaddr qload quop qiface qbuild qnil ldC ldD ob List.drop_succ_cons take_mapr drop_mapr List.drop_zero List.take_succ_cons List.take_zero List.length_cons List.length_nil List.getElem?_cons_zero List.getElem?_cons_succ Option.map_some Option.map_none List.head?_cons
attribute [local go_sem] nev isImm List.contains_cons List.contains_nil Bool.or_false Bool.or_true D.flat D.cellsOf D.isCell Bool.or_self Bool.and_self szOf nstore Store.get Store.upd putCells nk_cons not_or FZ frzE_mk frzL inL frz Store.del or_false boxCells List.headD_cons List.headD_nil List.nil_append List.append_nil List.cons_append List.drop_nil false_and and_false false_or true_or or_true Bool.false_and Bool.true_and Bool.false_or Bool.true_or Bool.and_false setPs lim_eq chunk zrep pls_eq plsF fillD resAll shop sbop bbop decide_true decide_false Bool.not_true Bool.not_false eq_self
attribute [local go_sem] tf0 tf1 tf2 tf3 tf4 tf5 tf6 tf7 tf8 tf9 tf10 tf11 tf12 tf13 tf14 tf15 tf16 tf17 tf18 tf19 tf20 tf21 tf22 tf23 tf24 tf25 tf26 tf27 tf28 tf29 tf30 tf31 tf32 tf33 tf34 tf35 tf36 tf37 tf38 tf39 tf40 tf41 tf42 tf43 tf44 tf45 tf46 tf47 tf48 tf49 tf50 tf51 tf52 tf53 tf54 tf55 tf56 tf57 tf58 tf59 tf60 tf61 tf62 tf63 tf64 tf65 tf66 tf67 tf68 tf69 tf70 tf71 tf72 tf73 tf74 tf75 tf76 tf77 tf78 tf79 tf80 tf81 tf82 tf83 tf84 tf85 tf86 tf87 tf88 tf89 tf90 tf91 tf92 tf93 tf94 tf95 tf96 tf97 tf98 tf99 tf100 tf101 tf102 tf103 tf104 tf105 tf106 tf107 tf108 tf109 tf110 tf111 tf112 tf113 tf114 tf115 tf116 tf117 tf118 tf119 tf120 tf121 tf122 tf123 tf124 tf125 tf126 tf127 tf128 tf129 tf130 tf131 tf132 tf133 tf134 tf135 tf136 tf137 tf138 tf139 tf140 tf141 tf142 tf143 tf144 tf145 tf146 tf147 tf148 tf149 tf150 tf151 tf152 tf153 tf154 tf155 tf156 tf157 tf158 tf159 tf160 tf161 tf162 tf163 tf164 tf165 tf166 tf167 tf168 tf169 tf170 tf171 tf172 tf173 tf174 tf175 tf176 tf177 tf178 tf179 tf180 tf181 tf182 tf183 tf184 tf185 tf186 tf187 tf188 tf189 tf190 tf191 tf192 tf193 tf194 tf195 tf196 tf197 tf198 tf199 tf200 tf201 tf202 tf203 tf204 tf205 tf206 tf207 tf208 tf209 tf210 tf211 tf212 tf213 tf214 tf215 tf216 tf217 tf218 tf219 tf220 tf221 tf222 tf223 tf224 tf225 tf226 tf227 tf228 tf229 tf230 tf231 tf232 tf233 tf234 tf235 tf236 tf237 tf238 tf239 tf240 tf241 tf242 tf243 tf244 tf245 tf246 tf247 tf248 tf249 tf250 tf251 tf252
attribute [local go_sem] List.length_map rowAt_n nrow rowAt_t trow rowAt_i irow
attribute [local go_sem] for_put for_put' for_look for_look'
theorem rev_w (xs : List Int) (bx c : Nat) (hx : xs.length ≤ 100000) : RCall Try.prog (.func 89) [.arr bx 1 xs.length c] [(bx, .arr 1 (xs.map irow) c)] (fun (_ : Unit) => .tup []) (fun (_ : Unit) => [(bx, .arr 1 (xs.reverse.map irow) c)]) (fun (_ : Unit) => True) := by
  refine fn_ Try.func89 (by rfl) (by rfl) (rs := []) (by rfl) (by simp [Try.f89]) ?_
  refine sq ?_
  by_cases hx0 : xs.length = 0
  · have hrv := rv_done (xs := xs) (k := 0) (by omega)
    refine rg [0, 2, 3] [] [] (by kernel_rfl) ?_; intro κ ξ hκ hξ
    try simp (config := { decide := true }) only [go_sem, Nat.reduceMul, Nat.reduceAdd, Nat.reduceBEq, cond_false]
    repeat with_reducible refine And.intro (by first | assumption | omega | (simp; done) | (simp; omega) | (intro hg; simp (config := { decide := true }) only [go_sem, hg]; done) | (intro hg; simp (config := { decide := true }) only [go_sem, hg]; omega)) ?_
    refine ⟨⟨30, rfl, by rw [tf117]; rfl, by omega⟩, ?_⟩
    refine hκ _ _ ?_; clear hκ hξ ξ κ
    refine bl ?_
    refine lp (α := Nat) (fun _ => mk [(0, .arr bx 1 xs.length c), (2, .int .i64 0), (3, .int .i64 (IntKind.wrap .i64 ((xs.length : Int) - 1)))]) (fun _ => [(bx, .arr 1 (xs.map irow) c)]) (fun _ => True) (fun _ => 0) 0 ⟨trivial, EnvLe.of_eq rfl, .refl _⟩ ?_
    intro k _
    refine sq ?_
    refine sq ?_
    refine rg [0, 2, 3, 9] [] [] (by kernel_rfl) ?_; intro κ ξ hκ hξ
    try simp (config := { decide := true }) only [go_sem, Nat.reduceMul, Nat.reduceAdd, Nat.reduceBEq, cond_false]
    repeat with_reducible refine And.intro (by first | assumption | omega | (simp; done) | (simp; omega) | (intro hg; simp (config := { decide := true }) only [go_sem, hg]; done) | (intro hg; simp (config := { decide := true }) only [go_sem, hg]; omega)) ?_
    refine hκ _ _ ?_; clear hκ hξ ξ κ
    refine cd (by rfl) (fun c0 => ?_) (fun c0 => ?_)
    · exfalso
      simp only [go_sem, hx0] at c0
      revert c0
      decide
    · skip
      refine ex ?_
      rw [show xs.reverse = xs from by rw [← hrv, rv_zero]]
      refine retRn (()) ?_ ?_ ?_
      · first | exact .refl _ | exact List.nil_sublist _ | exact List.sublist_cons_of_sublist _ (.refl _) | exact ((List.Sublist.refl _).cons _).cons _ | (simp [*]; done) | skip
      · first | trivial | assumption | omega | (simp; done) | skip
      simp (config := { decide := true }) only [go_sem, resD, resV, c0]
      all_goals rfl
  · have hw0 : IntKind.wrap .i64 ((xs.length : Int) - 1) = ((xs.length - 1 - 0 : Nat) : Int) := by rw [w64 (by omega)]; omega
    refine rg [0, 2, 3] [] [] (by kernel_rfl) ?_; intro κ ξ hκ hξ
    try simp (config := { decide := true }) only [go_sem, Nat.reduceMul, Nat.reduceAdd, Nat.reduceBEq, cond_false, hw0]
    repeat with_reducible refine And.intro (by first | assumption | omega | (simp; done) | (simp; omega) | (intro hg; simp (config := { decide := true }) only [go_sem, hg]; done) | (intro hg; simp (config := { decide := true }) only [go_sem, hg]; omega)) ?_
    refine ⟨⟨30, rfl, by rw [tf117]; rfl, by omega⟩, ?_⟩
    refine hκ _ _ ?_; clear hκ hξ ξ κ
    refine bl ?_
    refine lp (α := Nat) (fun k => mk [(0, .arr bx 1 xs.length c), (2, .int .i64 k), (3, .int .i64 ((xs.length - 1 - k : Nat) : Int))]) (fun k => [(bx, .arr 1 ((rv xs k).map irow) c)]) (fun k => k ≤ xs.length - 1) (fun k => xs.length - 1 - k) 0 ⟨by omega, EnvLe.of_eq rfl, by rw [rv_zero]; exact .refl _⟩ ?_
    intro k hk
    have hrl := rv_len xs k
    refine sq ?_
    refine sq ?_
    refine rg [0, 2, 3, 9] [] [] (by kernel_rfl) ?_; intro κ ξ hκ hξ
    try simp (config := { decide := true }) only [go_sem, Nat.reduceMul, Nat.reduceAdd, Nat.reduceBEq, cond_false, hw0]
    repeat with_reducible refine And.intro (by first | assumption | omega | (simp; done) | (simp; omega) | (intro hg; simp (config := { decide := true }) only [go_sem, hg]; done) | (intro hg; simp (config := { decide := true }) only [go_sem, hg]; omega)) ?_
    refine hκ _ _ ?_; clear hκ hξ ξ κ
    refine cd (by rfl) (fun c1 => ?_) (fun c1 => ?_)
    · simp only [go_sem] at c1
      have hk1 : k < xs.length - 1 - k := by omega
      have hkl : (k : Int) < (xs.length : Int) := by omega
      have hjl : ((xs.length - 1 - k : Nat) : Int) < (xs.length : Int) := by omega
      have hkn : k < xs.length := by omega
      have hjn : xs.length - 1 - k < xs.length := by omega
      have hd1 := irow_drop (xs := rv xs k) (k := k) (by rw [hrl]; omega)
      have hd2 := irow_drop (xs := rv xs k) (k := xs.length - 1 - k) (by rw [hrl]; omega)
      have hs1 := irow_set (xs := rv xs k) (k := k) (iat (rv xs k) (xs.length - 1 - k)) (by rw [hrl]; omega)
      have hs2 := irow_set (xs := (rv xs k).set k (iat (rv xs k) (xs.length - 1 - k))) (k := xs.length - 1 - k) (iat (rv xs k) k) (by rw [List.length_set, hrl]; omega)
      have hsw := rv_swap hk1
      refine sk ?_
      refine sq ?_
      refine bl ?_
      refine rgd [0, 2, 3] [] [] [] (by kernel_rfl) (by kernel_rfl) ?_; intro κ ξ hκ hξ
      try simp (config := { decide := true }) only [go_sem, Nat.reduceMul, Nat.reduceAdd, Nat.reduceBEq, cond_false, hw0, c1, hd1, hd2, Nat.mul_one, Nat.add_zero, Nat.div_one, Nat.mod_one, hs1, hs2, hsw, hrl, List.length_cons, Nat.le_add_left, List.headD_cons, List.length_set, hkl, hjl, hkn, hjn]
      repeat with_reducible refine And.intro (by first | assumption | omega | (simp; done) | (simp; omega) | (intro hg; simp (config := { decide := true }) only [go_sem, hg]; done) | (intro hg; simp (config := { decide := true }) only [go_sem, hg]; omega)) ?_
      refine hκ _ _ ?_; clear hκ hξ ξ κ
      refine rg [0, 2, 3] [] [] (by kernel_rfl) ?_; intro κ ξ hκ hξ
      try simp (config := { decide := true }) only [go_sem, Nat.reduceMul, Nat.reduceAdd, Nat.reduceBEq, cond_false, hw0, c1, hd1, hd2, Nat.mul_one, Nat.add_zero, Nat.div_one, Nat.mod_one, hs1, hs2, hsw, hrl, List.length_cons, Nat.le_add_left, List.headD_cons, List.length_set, hkl, hjl, hkn, hjn]
      repeat with_reducible refine And.intro (by first | assumption | omega | (simp; done) | (simp; omega) | (intro hg; simp (config := { decide := true }) only [go_sem, hg]; done) | (intro hg; simp (config := { decide := true }) only [go_sem, hg]; omega)) ?_
      refine hκ _ _ ?_; clear hκ hξ ξ κ
      refine ⟨k + 1, ⟨by omega, by omega⟩, EnvLe.of_eq ?_, ?_⟩
      · rw [show IntKind.wrap .i64 (((xs.length - 1 - k : Nat) : Int) - 1) = ((xs.length - 1 - (k + 1) : Nat) : Int) by rw [w64 (by omega)]; omega, w64 (by omega)]; rfl
      · exact .refl _
    · simp only [go_sem] at c1
      refine ex ?_
      rw [← rv_done (xs := xs) (k := k) (by omega)]
      refine retRn (()) ?_ ?_ ?_
      · first | exact .refl _ | exact List.nil_sublist _ | exact List.sublist_cons_of_sublist _ (.refl _) | exact ((List.Sublist.refl _).cons _).cons _ | (simp [*]; done) | skip
      · first | trivial | assumption | omega | (simp; done) | skip
      simp (config := { decide := true }) only [go_sem, resD, resV, hw0, c1]
      all_goals rfl

theorem rev1_w (v : Int) (t : Tok) : PCall Try.prog (.func 89) [.sl 1 [irow v] t] (.tup []) := by
  refine PCall.le ?_
  refine fn_ Try.func89 (by rfl) (by rfl) (rs := []) (by rfl) (by simp [Try.f89]) ?_
  refine sq ?_
  refine rg [0, 2, 3] [] [] (by kernel_rfl) ?_; intro κ ξ hκ hξ
  try simp (config := { decide := true }) only [go_sem, Nat.reduceMul, Nat.reduceAdd, Nat.reduceBEq, cond_false]
  repeat with_reducible refine And.intro (by first | assumption | omega | (simp; done) | (simp; omega) | (intro hg; simp (config := { decide := true }) only [go_sem, hg]; done) | (intro hg; simp (config := { decide := true }) only [go_sem, hg]; omega)) ?_
  refine hκ _ _ ?_; clear hκ hξ ξ κ
  refine bl ?_
  refine lp (α := Nat) (fun _ => mk [(0, .sl 1 [irow v] t), (2, .int .i64 0), (3, .int .i64 0)]) (fun _ => []) (fun _ => True) (fun _ => 0) 0 ⟨trivial, EnvLe.of_eq (by rw [show IntKind.wrap .i64 (((1 : Nat) : Int) - 1) = 0 by decide]; rfl), .refl _⟩ ?_
  intro k _
  refine sq ?_
  refine sq ?_
  refine rg [0, 2, 3, 9] [] [] (by kernel_rfl) ?_; intro κ ξ hκ hξ
  try simp (config := { decide := true }) only [go_sem, Nat.reduceMul, Nat.reduceAdd, Nat.reduceBEq, cond_false]
  repeat with_reducible refine And.intro (by first | assumption | omega | (simp; done) | (simp; omega) | (intro hg; simp (config := { decide := true }) only [go_sem, hg]; done) | (intro hg; simp (config := { decide := true }) only [go_sem, hg]; omega)) ?_
  refine hκ _ _ ?_; clear hκ hξ ξ κ
  refine cd (by rfl) (fun c0 => ?_) (fun c0 => ?_)
  · exfalso; revert c0; simp
  · skip
    refine ex ?_
    refine retEn ?_
    simp (config := { decide := true }) only [go_sem, resD, resV, c0]
    all_goals rfl

theorem path_w (l : List Nd) (t : Tok) (i : Nat) (hT : Tree l) (hi : i < l.length) : PCall Try.prog (.func 62) [.sl 5 (l.map nrow) t, .int .i64 i] (.sl 1 ((pathL l i).map irow) .no) := by
  have hil : (i : Int) < (l.length : Int) := by omega
  have hl4 := hT.len.2
  have hcl0 := chn_len l i
  have hd30 := hT.deep i hi
  refine PCall.le ?_
  refine fn_ Try.func62 (by rfl) (by rfl) (rs := [.tmp 4]) (by rfl) (by simp [Try.f62]) ?_
  refine sq ?_
  refine rg [0, 1] [] [] (by kernel_rfl) ?_; intro κ ξ hκ hξ
  try simp (config := { decide := true }) only [go_sem, Nat.reduceMul, Nat.reduceAdd, Nat.reduceBEq, cond_false, hil]
  repeat with_reducible refine And.intro (by first | assumption | omega | (simp; done) | (simp; omega) | (intro hg; simp (config := { decide := true }) only [go_sem, hg]; done) | (intro hg; simp (config := { decide := true }) only [go_sem, hg]; omega)) ?_
  refine hκ _ _ ?_; clear hκ hξ ξ κ
  refine sc ?_
  refine sq ?_
  refine rg [0, 1, 5] [] [] (by kernel_rfl) ?_; intro κ ξ hκ hξ
  try simp (config := { decide := true }) only [go_sem, Nat.reduceMul, Nat.reduceAdd, Nat.reduceBEq, cond_false, hil]
  repeat with_reducible refine And.intro (by first | assumption | omega | (simp; done) | (simp; omega) | (intro hg; simp (config := { decide := true }) only [go_sem, hg]; done) | (intro hg; simp (config := { decide := true }) only [go_sem, hg]; omega)) ?_
  refine hκ _ _ ?_; clear hκ hξ ξ κ
  refine sq ?_
  refine lb ?_
  refine sq ?_
  refine bl ?_
  refine lp (α := Nat × Option (Nat × Nat)) (fun y => mk [(0, .sl 5 (l.map nrow) t), (1, .int .i64 (cur l i y.1 : Nat)), (5, ptD (((upL l i).take (y.1 + 1)).map irow) (y.1 + 1) y.2)]) (fun y => ptS (((upL l i).take (y.1 + 1)).map irow) y.2) (fun y => y.1 ≤ (chn l i).length ∧ (y.2 = none → y.1 = 0) ∧ ∀ b c, y.2 = some (b, c) → y.1 + 1 ≤ c) (fun y => (chn l i).length - y.1) (0, none) ⟨⟨by omega, fun _ => rfl, fun b c h => by cases h⟩, EnvLe.of_eq rfl, .refl _⟩ ?_
  rintro ⟨j, o⟩ ⟨hj, hjn, ho⟩
  simp only at hj hjn ho
  obtain ⟨hcp, hcl⟩ := cur_pix (l := l) (i := i) hj
  have hup := up_pix hT (show cur l i j < l.length by omega)
  have hpz := par_zero hT (show cur l i j < l.length by omega)
  have hcll : (cur l i j : Int) < (l.length : Int) := by omega
  have hutl := upL_tl hj
  refine sq ?_
  refine sq ?_
  rcases o with _ | ⟨bo, co⟩
  · skip
    refine rg [0, 1, 5, 18] [] [] (by kernel_rfl) ?_; intro κ ξ hκ hξ
    try simp (config := { decide := true }) only [go_sem, Nat.reduceMul, Nat.reduceAdd, Nat.reduceBEq, cond_false, hil, hcll, ptD, ptS]
    repeat with_reducible refine And.intro (by first | assumption | omega | (simp; done) | (simp; omega) | (intro hg; simp (config := { decide := true }) only [go_sem, hg]; done) | (intro hg; simp (config := { decide := true }) only [go_sem, hg]; omega)) ?_
    refine hκ _ _ ?_; clear hκ hξ ξ κ
    refine cd (by rfl) (fun c0 => ?_) (fun c0 => ?_)
    · simp only [go_sem] at c0
      obtain ⟨x, hx, hux⟩ : ∃ x : Nat, (chn l i)[j]? = some x ∧ upc (chn l i) j = (x : Int) := upc_pos (by rw [← hcp]; by_cases h : 0 ≤ pix l (cur l i j); exact h; exact absurd (hpz.2 h) c0)
      have hpx := pix_lt l (cur l i j)
      have hjl := (List.getElem?_eq_some_iff.1 hx).1
      refine sk ?_
      refine bl ?_
      refine sq ?_
      refine sq ?_
      refine rg [0, 1, 5, 19, 20] [] [] (by kernel_rfl) ?_; intro κ ξ hκ hξ
      try simp (config := { decide := true }) only [go_sem, Nat.reduceMul, Nat.reduceAdd, Nat.reduceBEq, cond_false, hil, hcll, ptD, ptS, c0]
      repeat with_reducible refine And.intro (by first | assumption | omega | (simp; done) | (simp; omega) | (intro hg; simp (config := { decide := true }) only [go_sem, hg]; done) | (intro hg; simp (config := { decide := true }) only [go_sem, hg]; omega)) ?_
      refine hκ _ _ ?_; clear hκ hξ ξ κ
      refine bl ?_
      refine lp (α := Nat) (fun k => mk [(0, .sl 5 (l.map nrow) t), (1, .int .i64 (cur l i j : Nat)), (5, ptD (((upL l i).take (j + 1)).map irow) (j + 1) none), (19, .int .i64 (cur l i j : Nat)), (20, .int .i64 k)]) (fun _ => ptS (((upL l i).take (j + 1)).map irow) none) (fun k => k ≤ cur l i j ∧ ∀ q, q < k → (nat l q).id ≠ (nat l (cur l i j)).par) (fun k => cur l i j - k) 0 ⟨⟨by omega, fun q h => by omega⟩, EnvLe.of_eq rfl, .refl _⟩ ?_
      rintro k ⟨hk, hno⟩
      refine sq ?_
      refine rg [0, 1, 5, 19, 20, 21] [] [] (by kernel_rfl) ?_; intro κ ξ hκ hξ
      try simp (config := { decide := true }) only [go_sem, Nat.reduceMul, Nat.reduceAdd, Nat.reduceBEq, cond_false, hil, hcll, ptD, ptS, c0]
      repeat with_reducible refine And.intro (by first | assumption | omega | (simp; done) | (simp; omega) | (intro hg; simp (config := { decide := true }) only [go_sem, hg]; done) | (intro hg; simp (config := { decide := true }) only [go_sem, hg]; omega)) ?_
      refine hκ _ _ ?_; clear hκ hξ ξ κ
      refine sq ?_
      refine cd (by rfl) (fun c1 => ?_) (fun c1 => ?_)
      · simp only [go_sem] at c1
        have hkl : (k : Int) < (l.length : Int) := by omega
        refine sk ?_
        refine sq ?_
        refine bl ?_
        refine sq ?_
        refine rg [0, 1, 5, 6, 19, 20] [] [] (by kernel_rfl) ?_; intro κ ξ hκ hξ
        try simp (config := { decide := true }) only [go_sem, Nat.reduceMul, Nat.reduceAdd, Nat.reduceBEq, cond_false, hil, hcll, ptD, ptS, c0, c1, hkl]
        repeat with_reducible refine And.intro (by first | assumption | omega | (simp; done) | (simp; omega) | (intro hg; simp (config := { decide := true }) only [go_sem, hg]; done) | (intro hg; simp (config := { decide := true }) only [go_sem, hg]; omega)) ?_
        refine hκ _ _ ?_; clear hκ hξ ξ κ
        refine sq ?_
        refine rgd [0, 1, 5, 6, 19, 20, 33] [] [] [] (by kernel_rfl) (by kernel_rfl) ?_; intro κ ξ hκ hξ
        try simp (config := { decide := true }) only [go_sem, Nat.reduceMul, Nat.reduceAdd, Nat.reduceBEq, cond_false, hil, hcll, ptD, ptS, c0, c1, hkl]
        repeat with_reducible refine And.intro (by first | assumption | omega | (simp; done) | (simp; omega) | (intro hg; simp (config := { decide := true }) only [go_sem, hg]; done) | (intro hg; simp (config := { decide := true }) only [go_sem, hg]; omega)) ?_
        refine hκ _ _ ?_; clear hκ hξ ξ κ
        refine cd (by rfl) (fun c2 => ?_) (fun c2 => ?_)
        · try simp only [go_sem] at c2
          refine sq ?_
          refine rg [0, 1, 5] [41] [] (by kernel_rfl) ?_; intro κ ξ hκ hξ
          try simp (config := { decide := true }) only [go_sem, Nat.reduceMul, Nat.reduceAdd, Nat.reduceBEq, cond_false, hil, hcll, ptD, ptS, c0, c1, hkl, c2]
          repeat with_reducible refine And.intro (by first | assumption | omega | (simp; done) | (simp; omega) | (intro hg; simp (config := { decide := true }) only [go_sem, hg]; done) | (intro hg; simp (config := { decide := true }) only [go_sem, hg]; omega)) ?_
          first
          | refine .inl (nappM_full (rows := ((upL l i).take (j + 1)).map irow) (n := j + 1) (by rw [List.length_map, hutl]) rfl rfl (by simp (config := { decide := true }) only [go_sem, Option.isSome_some]) tf117 tf118 tf36 (by refine ⟨⟨rfl, by decide, by decide⟩, irow_all _, by simp [D.isCell], by simp, ?_⟩; simp [capB] <;> omega) ?_); intro b41 c41 hb41 hc41
          | refine .inl (nappM_growN (rows := ((upL l i).take (j + 1)).map irow) (n := j + 1) (by rw [List.length_map, hutl]) hco rfl rfl (by simp (config := { decide := true }) only [go_sem, Option.isSome_some]) tf117 tf118 tf36 (by refine ⟨⟨rfl, by decide, by decide⟩, by simp [D.isCell], by simp, ?_⟩; simp [capB] <;> omega) ?_); intro b41 c41 hb41 hc41
          try simp (config := { decide := true }) only [go_sem, Nat.reduceMul, Nat.reduceAdd, Nat.reduceBEq, cond_false, hil, hcll, ptD, ptS, c0, c1, hkl, c2, hb41]
          repeat with_reducible refine And.intro (by first | assumption | omega | (simp; done) | (simp; omega) | (intro hg; simp (config := { decide := true }) only [go_sem, hg]; done) | (intro hg; simp (config := { decide := true }) only [go_sem, hg]; omega)) ?_
          refine hκ _ _ ?_; clear hκ hξ ξ κ
          refine ex ?_
          have hkx : k = x := by
            have := idx_is (l := l) (x := (nat l (cur l i j)).par) (i := k) (by omega) (by simpa using c2) hno
            omega
          subst hkx
          refine ⟨(j + 1, some (b41, c41)), ⟨⟨by omega, (by intro h; cases h), (by intro b c h; cases h; simp only [List.length_cons, List.length_nil] at hc41; exact hc41)⟩, by simp only; omega⟩, EnvLe.of_eq ?_, ?_⟩
          · rw [cur_succ hx]; rfl
          · simp only [ptS, upL_take hx, List.map_append, c2]; exact .refl _
        · try simp only [go_sem] at c2
          refine sk ?_
          refine rg [0, 1, 5, 19, 20] [] [] (by kernel_rfl) ?_; intro κ ξ hκ hξ
          try simp (config := { decide := true }) only [go_sem, Nat.reduceMul, Nat.reduceAdd, Nat.reduceBEq, cond_false, hil, hcll, ptD, ptS, c0, c1, hkl, c2]
          repeat with_reducible refine And.intro (by first | assumption | omega | (simp; done) | (simp; omega) | (intro hg; simp (config := { decide := true }) only [go_sem, hg]; done) | (intro hg; simp (config := { decide := true }) only [go_sem, hg]; omega)) ?_
          refine hκ _ _ ?_; clear hκ hξ ξ κ
          refine ⟨k + 1, ⟨⟨by omega, fun q hq => ?_⟩, by omega⟩, EnvLe.of_eq (by rw [w64 (by omega)]; rfl), .refl _⟩
          rcases Nat.lt_succ_iff_lt_or_eq.1 hq with h | rfl
          · exact hno q h
          · exact (by simpa using c2)
      · exfalso
        simp only [go_sem] at c1
        rcases idx_cases l (nat l (cur l i j)).par with ⟨y, hy, h1, h2, h3⟩ | ⟨_, h3⟩
        · exact hno y (by omega) h1
        · omega
    · have hje : j = (chn l i).length := by
        have := upc_neg (c := chn l i) (j := j) (by rw [← hcp]; exact hpz.1 (by simpa using c0))
        omega
      have hue : (upL l i).take (j + 1) = upL l i := List.take_of_length_le (by rw [upL_len]; omega)
      have hule : (upL l i).length = j + 1 := by rw [upL_len]; omega
      obtain rfl := hjn rfl
      have hch : chn l i = [] := List.eq_nil_of_length_eq_zero hje.symm
      have hu1 : upL l i = [(nat l i).id] := by unfold upL; rw [hch]; rfl
      refine ex ?_
      refine sq ?_
      refine rg [5] [] [] (by kernel_rfl) ?_; intro κ ξ hκ hξ
      try simp (config := { decide := true }) only [go_sem, Nat.reduceMul, Nat.reduceAdd, Nat.reduceBEq, cond_false, hil, hcll, ptD, ptS, c0, hue, hu1, List.map_cons, List.map_nil]
      repeat with_reducible refine And.intro (by first | assumption | omega | (simp; done) | (simp; omega) | (intro hg; simp (config := { decide := true }) only [go_sem, hg]; done) | (intro hg; simp (config := { decide := true }) only [go_sem, hg]; omega)) ?_
      first
      | refine callF (rev1_w _ _) ?_
      | refine callR (by have h := rev_w (upL l i) bo co (by omega); rw [hule] at h; exact h) fun _ _ => ?_
      try simp (config := { decide := true }) only [go_sem, Nat.reduceMul, Nat.reduceAdd, Nat.reduceBEq, cond_false, hil, hcll, ptD, ptS, c0, hue, hu1, List.map_cons, List.map_nil]
      repeat with_reducible refine And.intro (by first | assumption | omega | (simp; done) | (simp; omega) | (intro hg; simp (config := { decide := true }) only [go_sem, hg]; done) | (intro hg; simp (config := { decide := true }) only [go_sem, hg]; omega)) ?_
      refine hκ _ _ ?_; clear hκ hξ ξ κ
      refine sq ?_
      refine rg [4] [] [] (by kernel_rfl) ?_; intro κ ξ hκ hξ
      try simp (config := { decide := true }) only [go_sem, Nat.reduceMul, Nat.reduceAdd, Nat.reduceBEq, cond_false, hil, hcll, ptD, ptS, c0, hue, hu1, List.map_cons, List.map_nil]
      repeat with_reducible refine And.intro (by first | assumption | omega | (simp; done) | (simp; omega) | (intro hg; simp (config := { decide := true }) only [go_sem, hg]; done) | (intro hg; simp (config := { decide := true }) only [go_sem, hg]; omega)) ?_
      refine hκ _ _ ?_; clear hκ hξ ξ κ
      refine rt ?_
      refine retL ?_
      simp (config := { decide := true }) only [go_sem, resD, resV, hil, hcll, ptD, ptS, c0, hue, hu1, List.map_cons, List.map_nil]
      have hp : pathL l i = [(nat l i).id] := by unfold pathL; rw [hu1]; rfl
      rw [hp]
      exact DLe.tok _ _ _
  · have hco := ho bo co rfl
    refine rg [0, 1, 5, 18] [] [] (by kernel_rfl) ?_; intro κ ξ hκ hξ
    try simp (config := { decide := true }) only [go_sem, Nat.reduceMul, Nat.reduceAdd, Nat.reduceBEq, cond_false, hil, hcll, ptD, ptS]
    repeat with_reducible refine And.intro (by first | assumption | omega | (simp; done) | (simp; omega) | (intro hg; simp (config := { decide := true }) only [go_sem, hg]; done) | (intro hg; simp (config := { decide := true }) only [go_sem, hg]; omega)) ?_
    refine hκ _ _ ?_; clear hκ hξ ξ κ
    refine cd (by rfl) (fun c3 => ?_) (fun c3 => ?_)
    · simp only [go_sem] at c3
      obtain ⟨x, hx, hux⟩ : ∃ x : Nat, (chn l i)[j]? = some x ∧ upc (chn l i) j = (x : Int) := upc_pos (by rw [← hcp]; by_cases h : 0 ≤ pix l (cur l i j); exact h; exact absurd (hpz.2 h) c3)
      have hpx := pix_lt l (cur l i j)
      have hjl := (List.getElem?_eq_some_iff.1 hx).1
      refine sk ?_
      refine bl ?_
      refine sq ?_
      refine sq ?_
      refine rg [0, 1, 5, 19, 20] [] [] (by kernel_rfl) ?_; intro κ ξ hκ hξ
      try simp (config := { decide := true }) only [go_sem, Nat.reduceMul, Nat.reduceAdd, Nat.reduceBEq, cond_false, hil, hcll, ptD, ptS, c3]
      repeat with_reducible refine And.intro (by first | assumption | omega | (simp; done) | (simp; omega) | (intro hg; simp (config := { decide := true }) only [go_sem, hg]; done) | (intro hg; simp (config := { decide := true }) only [go_sem, hg]; omega)) ?_
      refine hκ _ _ ?_; clear hκ hξ ξ κ
      refine bl ?_
      refine lp (α := Nat) (fun k => mk [(0, .sl 5 (l.map nrow) t), (1, .int .i64 (cur l i j : Nat)), (5, ptD (((upL l i).take (j + 1)).map irow) (j + 1) (some (bo, co))), (19, .int .i64 (cur l i j : Nat)), (20, .int .i64 k)]) (fun _ => ptS (((upL l i).take (j + 1)).map irow) (some (bo, co))) (fun k => k ≤ cur l i j ∧ ∀ q, q < k → (nat l q).id ≠ (nat l (cur l i j)).par) (fun k => cur l i j - k) 0 ⟨⟨by omega, fun q h => by omega⟩, EnvLe.of_eq rfl, .refl _⟩ ?_
      rintro k ⟨hk, hno⟩
      refine sq ?_
      refine rg [0, 1, 5, 19, 20, 21] [] [] (by kernel_rfl) ?_; intro κ ξ hκ hξ
      try simp (config := { decide := true }) only [go_sem, Nat.reduceMul, Nat.reduceAdd, Nat.reduceBEq, cond_false, hil, hcll, ptD, ptS, c3]
      repeat with_reducible refine And.intro (by first | assumption | omega | (simp; done) | (simp; omega) | (intro hg; simp (config := { decide := true }) only [go_sem, hg]; done) | (intro hg; simp (config := { decide := true }) only [go_sem, hg]; omega)) ?_
      refine hκ _ _ ?_; clear hκ hξ ξ κ
      refine sq ?_
      refine cd (by rfl) (fun c4 => ?_) (fun c4 => ?_)
      · simp only [go_sem] at c4
        have hkl : (k : Int) < (l.length : Int) := by omega
        refine sk ?_
        refine sq ?_
        refine bl ?_
        refine sq ?_
        refine rg [0, 1, 5, 6, 19, 20] [] [] (by kernel_rfl) ?_; intro κ ξ hκ hξ
        try simp (config := { decide := true }) only [go_sem, Nat.reduceMul, Nat.reduceAdd, Nat.reduceBEq, cond_false, hil, hcll, ptD, ptS, c3, c4, hkl]
        repeat with_reducible refine And.intro (by first | assumption | omega | (simp; done) | (simp; omega) | (intro hg; simp (config := { decide := true }) only [go_sem, hg]; done) | (intro hg; simp (config := { decide := true }) only [go_sem, hg]; omega)) ?_
        refine hκ _ _ ?_; clear hκ hξ ξ κ
        refine sq ?_
        refine rgd [0, 1, 5, 6, 19, 20, 33] [] [] [] (by kernel_rfl) (by kernel_rfl) ?_; intro κ ξ hκ hξ
        try simp (config := { decide := true }) only [go_sem, Nat.reduceMul, Nat.reduceAdd, Nat.reduceBEq, cond_false, hil, hcll, ptD, ptS, c3, c4, hkl]
        repeat with_reducible refine And.intro (by first | assumption | omega | (simp; done) | (simp; omega) | (intro hg; simp (config := { decide := true }) only [go_sem, hg]; done) | (intro hg; simp (config := { decide := true }) only [go_sem, hg]; omega)) ?_
        refine hκ _ _ ?_; clear hκ hξ ξ κ
        refine cd (by rfl) (fun c5 => ?_) (fun c5 => ?_)
        · try simp only [go_sem] at c5
          refine sq ?_
          refine rg [0, 1, 5] [41] [] (by kernel_rfl) ?_; intro κ ξ hκ hξ
          try simp (config := { decide := true }) only [go_sem, Nat.reduceMul, Nat.reduceAdd, Nat.reduceBEq, cond_false, hil, hcll, ptD, ptS, c3, c4, hkl, c5]
          repeat with_reducible refine And.intro (by first | assumption | omega | (simp; done) | (simp; omega) | (intro hg; simp (config := { decide := true }) only [go_sem, hg]; done) | (intro hg; simp (config := { decide := true }) only [go_sem, hg]; omega)) ?_
          first
          | refine .inl (nappM_full (rows := ((upL l i).take (j + 1)).map irow) (n := j + 1) (by rw [List.length_map, hutl]) rfl rfl (by simp (config := { decide := true }) only [go_sem, Option.isSome_some]) tf117 tf118 tf36 (by refine ⟨⟨rfl, by decide, by decide⟩, irow_all _, by simp [D.isCell], by simp, ?_⟩; simp [capB] <;> omega) ?_); intro b41 c41 hb41 hc41
          | refine .inl (nappM_growN (rows := ((upL l i).take (j + 1)).map irow) (n := j + 1) (by rw [List.length_map, hutl]) hco rfl rfl (by simp (config := { decide := true }) only [go_sem, Option.isSome_some]) tf117 tf118 tf36 (by refine ⟨⟨rfl, by decide, by decide⟩, by simp [D.isCell], by simp, ?_⟩; simp [capB] <;> omega) ?_); intro b41 c41 hb41 hc41
          try simp (config := { decide := true }) only [go_sem, Nat.reduceMul, Nat.reduceAdd, Nat.reduceBEq, cond_false, hil, hcll, ptD, ptS, c3, c4, hkl, c5, hb41]
          repeat with_reducible refine And.intro (by first | assumption | omega | (simp; done) | (simp; omega) | (intro hg; simp (config := { decide := true }) only [go_sem, hg]; done) | (intro hg; simp (config := { decide := true }) only [go_sem, hg]; omega)) ?_
          refine hκ _ _ ?_; clear hκ hξ ξ κ
          refine ex ?_
          have hkx : k = x := by
            have := idx_is (l := l) (x := (nat l (cur l i j)).par) (i := k) (by omega) (by simpa using c5) hno
            omega
          subst hkx
          refine ⟨(j + 1, some (b41, c41)), ⟨⟨by omega, (by intro h; cases h), (by intro b c h; cases h; simp only [List.length_cons, List.length_nil] at hc41; exact hc41)⟩, by simp only; omega⟩, EnvLe.of_eq ?_, ?_⟩
          · rw [cur_succ hx]; rfl
          · simp only [ptS, upL_take hx, List.map_append, c5]; exact .refl _
        · try simp only [go_sem] at c5
          refine sk ?_
          refine rg [0, 1, 5, 19, 20] [] [] (by kernel_rfl) ?_; intro κ ξ hκ hξ
          try simp (config := { decide := true }) only [go_sem, Nat.reduceMul, Nat.reduceAdd, Nat.reduceBEq, cond_false, hil, hcll, ptD, ptS, c3, c4, hkl, c5]
          repeat with_reducible refine And.intro (by first | assumption | omega | (simp; done) | (simp; omega) | (intro hg; simp (config := { decide := true }) only [go_sem, hg]; done) | (intro hg; simp (config := { decide := true }) only [go_sem, hg]; omega)) ?_
          refine hκ _ _ ?_; clear hκ hξ ξ κ
          refine ⟨k + 1, ⟨⟨by omega, fun q hq => ?_⟩, by omega⟩, EnvLe.of_eq (by rw [w64 (by omega)]; rfl), .refl _⟩
          rcases Nat.lt_succ_iff_lt_or_eq.1 hq with h | rfl
          · exact hno q h
          · exact (by simpa using c5)
      · exfalso
        simp only [go_sem] at c4
        rcases idx_cases l (nat l (cur l i j)).par with ⟨y, hy, h1, h2, h3⟩ | ⟨_, h3⟩
        · exact hno y (by omega) h1
        · omega
    · have hje : j = (chn l i).length := by
        have := upc_neg (c := chn l i) (j := j) (by rw [← hcp]; exact hpz.1 (by simpa using c3))
        omega
      have hue : (upL l i).take (j + 1) = upL l i := List.take_of_length_le (by rw [upL_len]; omega)
      have hule : (upL l i).length = j + 1 := by rw [upL_len]; omega
      refine ex ?_
      refine sq ?_
      refine rg [5] [] [] (by kernel_rfl) ?_; intro κ ξ hκ hξ
      try simp (config := { decide := true }) only [go_sem, Nat.reduceMul, Nat.reduceAdd, Nat.reduceBEq, cond_false, hil, hcll, ptD, ptS, c3, hue]
      repeat with_reducible refine And.intro (by first | assumption | omega | (simp; done) | (simp; omega) | (intro hg; simp (config := { decide := true }) only [go_sem, hg]; done) | (intro hg; simp (config := { decide := true }) only [go_sem, hg]; omega)) ?_
      first
      | refine callF (rev1_w _ _) ?_
      | refine callR (by have h := rev_w (upL l i) bo co (by omega); rw [hule] at h; exact h) fun _ _ => ?_
      try simp (config := { decide := true }) only [go_sem, Nat.reduceMul, Nat.reduceAdd, Nat.reduceBEq, cond_false, hil, hcll, ptD, ptS, c3, hue]
      repeat with_reducible refine And.intro (by first | assumption | omega | (simp; done) | (simp; omega) | (intro hg; simp (config := { decide := true }) only [go_sem, hg]; done) | (intro hg; simp (config := { decide := true }) only [go_sem, hg]; omega)) ?_
      refine hκ _ _ ?_; clear hκ hξ ξ κ
      refine sq ?_
      refine rg [4] [] [] (by kernel_rfl) ?_; intro κ ξ hκ hξ
      try simp (config := { decide := true }) only [go_sem, Nat.reduceMul, Nat.reduceAdd, Nat.reduceBEq, cond_false, hil, hcll, ptD, ptS, c3, hue]
      repeat with_reducible refine And.intro (by first | assumption | omega | (simp; done) | (simp; omega) | (intro hg; simp (config := { decide := true }) only [go_sem, hg]; done) | (intro hg; simp (config := { decide := true }) only [go_sem, hg]; omega)) ?_
      refine hκ _ _ ?_; clear hκ hξ ξ κ
      refine fza bo [4] [] (sz := 1) (rows := (upL l i).reverse.map irow) (cap := co) (by simp [Store.get]) ?_
      refine weak (mk [(4, .sl 1 ((pathL l i).map irow) .no)]) (EnvLe.of_l ⟨?_, trivial⟩) (List.nil_sublist _) ?_
      · have e1 : j + 1 ≤ lim := by unfold lim; omega
        have e2 : List.take (j + 1) ((upL l i).reverse.map irow) = (upL l i).reverse.map irow := List.take_of_length_le (by rw [List.length_map, List.length_reverse, hule]; exact Nat.le_refl _)
        show (if bo = bo ∧ 1 = 1 ∧ j + 1 ≤ ((upL l i).reverse.map irow).length ∧ j + 1 ≤ co ∧ j + 1 ≤ lim then D.sl 1 (((upL l i).reverse.map irow).take (j + 1)) .no else .arr bo 1 (j + 1) co) = _
        rw [if_pos ⟨rfl, rfl, by rw [List.length_map, List.length_reverse, hule]; exact Nat.le_refl _, hco, e1⟩, e2]; rfl
      refine rt ?_
      refine retL ?_
      simp (config := { decide := true }) only [go_sem, resD, resV, hil, hcll, ptD, ptS, c3, hue]
      exact DLe.refl _

theorem tpath_w (l : List Nd) (t : Tok) (x : Int) : PCall Try.prog (.func 29) [.sl 5 (l.map nrow) t, .int .i64 x] (.tup [if gerr l x = 0 then .sl 1 ((pathL l (idx l x).toNat).map irow) .no else .sl 0 [] .nil, .int .i64 (gerr l x)]) := by
  refine PCall.le ?_
  refine fn_ Try.func29 (by rfl) (by rfl) (rs := [.tmp 4, .tmp 5]) (by rfl) (by simp [Try.f29]) ?_
  refine sq ?_
  refine rg [0, 1] [] [] (by kernel_rfl) ?_; intro κ ξ hκ hξ
  try simp (config := { decide := true }) only [go_sem, Nat.reduceMul, Nat.reduceAdd, Nat.reduceBEq, cond_false]
  repeat with_reducible refine And.intro (by first | assumption | omega | (simp; done) | (simp; omega) | (intro hg; simp (config := { decide := true }) only [go_sem, hg]; done) | (intro hg; simp (config := { decide := true }) only [go_sem, hg]; omega)) ?_
  refine hκ _ _ ?_; clear hκ hξ ξ κ
  refine sq ?_
  refine rg [0, 6, 7] [] [] (by kernel_rfl) ?_; intro κ ξ hκ hξ
  try simp (config := { decide := true }) only [go_sem, Nat.reduceMul, Nat.reduceAdd, Nat.reduceBEq, cond_false]
  repeat with_reducible refine And.intro (by first | assumption | omega | (simp; done) | (simp; omega) | (intro hg; simp (config := { decide := true }) only [go_sem, hg]; done) | (intro hg; simp (config := { decide := true }) only [go_sem, hg]; omega)) ?_
  refine callF (get_w _ _ _) ?_
  try simp (config := { decide := true }) only [go_sem, Nat.reduceMul, Nat.reduceAdd, Nat.reduceBEq, cond_false]
  repeat with_reducible refine And.intro (by first | assumption | omega | (simp; done) | (simp; omega) | (intro hg; simp (config := { decide := true }) only [go_sem, hg]; done) | (intro hg; simp (config := { decide := true }) only [go_sem, hg]; omega)) ?_
  refine hκ _ _ ?_; clear hκ hξ ξ κ
  refine sq ?_
  refine sq ?_
  refine rg [0, 6, 7, 15] [] [] (by kernel_rfl) ?_; intro κ ξ hκ hξ
  try simp (config := { decide := true }) only [go_sem, Nat.reduceMul, Nat.reduceAdd, Nat.reduceBEq, cond_false]
  repeat with_reducible refine And.intro (by first | assumption | omega | (simp; done) | (simp; omega) | (intro hg; simp (config := { decide := true }) only [go_sem, hg]; done) | (intro hg; simp (config := { decide := true }) only [go_sem, hg]; omega)) ?_
  refine hκ _ _ ?_; clear hκ hξ ξ κ
  refine cd (by rfl) (fun c0 => ?_) (fun c0 => ?_)
  · simp only [go_sem] at c0
    refine sq ?_
    refine rg [4, 5] [] [] (by kernel_rfl) ?_; intro κ ξ hκ hξ
    try simp (config := { decide := true }) only [go_sem, Nat.reduceMul, Nat.reduceAdd, Nat.reduceBEq, cond_false, c0]
    repeat with_reducible refine And.intro (by first | assumption | omega | (simp; done) | (simp; omega) | (intro hg; simp (config := { decide := true }) only [go_sem, hg]; done) | (intro hg; simp (config := { decide := true }) only [go_sem, hg]; omega)) ?_
    refine hκ _ _ ?_; clear hκ hξ ξ κ
    refine rt ?_
    refine retE ?_
    simp (config := { decide := true }) only [go_sem, resD, resV, c0]
    all_goals simp [c0]
  · have hg : gerr l x = 0 := by simpa using c0
    obtain ⟨hv, hix⟩ : (treB l && idB x) = true ∧ 0 ≤ idx l x := by
      unfold gerr at hg
      by_cases h1 : (treB l && idB x) = true
      · by_cases h2 : 0 ≤ idx l x
        · exact ⟨h1, h2⟩
        · simp [h1, h2] at hg
      · simp [h1] at hg
    simp only [Bool.and_eq_true] at hv
    obtain ⟨hv1, hv2⟩ := hv
    have hT := treB_true.1 hv1
    obtain ⟨i, hi⟩ : ∃ i : Nat, idx l x = (i : Int) := ⟨(idx l x).toNat, by omega⟩
    have hil := idx_lt l x
    have hfi : fi l x = (i : Int) := by unfold fi; rw [if_pos hix, hi]
    refine sk ?_
    refine sq ?_
    refine rg [4, 5] [] [] (by kernel_rfl) ?_; intro κ ξ hκ hξ
    try simp (config := { decide := true }) only [go_sem, Nat.reduceMul, Nat.reduceAdd, Nat.reduceBEq, cond_false, c0, hv1, hv2, and_self, if_true, hfi, hg]
    repeat with_reducible refine And.intro (by first | assumption | omega | (simp; done) | (simp; omega) | (intro hg; simp (config := { decide := true }) only [go_sem, hg]; done) | (intro hg; simp (config := { decide := true }) only [go_sem, hg]; omega)) ?_
    refine callF (path_w l t i hT (by omega)) ?_
    try simp (config := { decide := true }) only [go_sem, Nat.reduceMul, Nat.reduceAdd, Nat.reduceBEq, cond_false, c0, hv1, hv2, and_self, if_true, hfi, hg]
    repeat with_reducible refine And.intro (by first | assumption | omega | (simp; done) | (simp; omega) | (intro hg; simp (config := { decide := true }) only [go_sem, hg]; done) | (intro hg; simp (config := { decide := true }) only [go_sem, hg]; omega)) ?_
    refine hκ _ _ ?_; clear hκ hξ ξ κ
    refine rt ?_
    refine retE ?_
    simp (config := { decide := true }) only [go_sem, resD, resV, c0, hv1, hv2, and_self, if_true, hfi, hg]
    all_goals simp [hg, hi]

end Go.Proofs.Ytgccnkihonmlbaa

/- The walk of the selector laws' head. Printed by a tool of our own. -/
import Derived.Test.YtgccnkihonmlbaaSk
namespace Go.Proofs.Ytgccnkihonmlbaa
open Go Go.RowKit
set_option linter.unusedSimpArgs false
set_option linter.unusedVariables false
set_option maxHeartbeats 4000000
set_option maxRecDepth 100000
def exL : List Nd := [⟨1, 0, 1, 0, []⟩, ⟨2, 1, 1, 7, []⟩, ⟨3, 2, 2, 0, [97, 98]⟩]
def tBl : Ts := ⟨1, 0, 0, false⟩
def tTx : Ts := ⟨2, 0, 0, false⟩
def tCh : Ts := ⟨2, 0, 0, true⟩
def tC7 : Ts := ⟨0, 7, 0, false⟩
def tBc : Ts := ⟨1, 0, 0, true⟩
def tI1 : Ts := ⟨0, 0, 1, false⟩
theorem exp0 : pix exL 0 = -1 := by decide
theorem exp1 : pix exL 1 = 0 := by decide
theorem exp2 : pix exL 2 = 1 := by decide
theorem exc0 : chn exL 0 = [] := by rw [chn_eq, exp0]; rfl
theorem exc1 : chn exL 1 = [0] := by rw [chn_eq, exp1, if_pos (by decide)]; show 0 :: chn exL 0 = _; rw [exc0]
theorem exc2 : chn exL 2 = [1, 0] := by rw [chn_eq, exp2, if_pos (by decide)]; show 1 :: chn exL 1 = _; rw [exc1]
theorem exT : Tree exL where
  len := by decide
  root := by decide
  form := by decide
  once := by decide
  up := fun i h0 hi => by
    have h3 : i < 3 := hi
    match i, h0, h3 with
    | 1, _, _ => decide
    | 2, _, _ => decide
  deep := fun i hi => by
    have h := chn_len exL i
    have h3 : i < 3 := hi
    match i, h3 with
    | 0, _ => rw [exc0] at h; simp at h; omega
    | 1, _ => rw [exc1] at h; simp at h; omega
    | 2, _ => rw [exc2] at h; simp at h; omega
theorem exV : treB exL = true := treB_true.2 exT
theorem exA (ts : List Ts) : allP exL ts 3 = (if mtB exL ts ts.length 0 = true then [1] else []) ++ (if mtB exL ts ts.length 1 = true then [2] else []) ++ (if mtB exL ts ts.length 2 = true then [3] else []) := by
  rw [allP_succ, allP_succ, allP_succ]
  cases mtB exL ts ts.length 0 <;> cases mtB exL ts ts.length 1 <;> cases mtB exL ts ts.length 2 <;> rfl
theorem ex1 : PCall Try.prog (.func 22) [.sl 5 (exL.map nrow) .full, .sl 4 ([tBl, tTx].map trow) .full] (.tup [.sl 1 ([(3 : Int)].map irow) .no, .int .i64 0]) := by
  have h := sall_w exL [tBl, tTx] .full .full
  have hs : selB [tBl, tTx] = true := by decide
  have ha : allP exL [tBl, tTx] exL.length = [3] := by
    show allP exL [tBl, tTx] 3 = _
    rw [exA]; simp [mtB, exc0, exc1, exc2]; decide
  rw [exV, hs, ha] at h; exact h
theorem ex2 : PCall Try.prog (.func 22) [.sl 5 (exL.map nrow) .full, .sl 4 ([tBl, tCh].map trow) .full] (.tup [.sl 1 ([(3 : Int)].map irow) .no, .int .i64 0]) := by
  have h := sall_w exL [tBl, tCh] .full .full
  have hs : selB [tBl, tCh] = true := by decide
  have ha : allP exL [tBl, tCh] exL.length = [3] := by
    show allP exL [tBl, tCh] 3 = _
    rw [exA]; simp [mtB, exc0, exc1, exc2]; decide
  rw [exV, hs, ha] at h; exact h
theorem ex3 : PCall Try.prog (.func 22) [.sl 5 (exL.map nrow) .full, .sl 4 ([tC7, tBc].map trow) .full] (.tup [.sl 1 (([] : List Int).map irow) .no, .int .i64 0]) := by
  have h := sall_w exL [tC7, tBc] .full .full
  have hs : selB [tC7, tBc] = true := by decide
  have ha : allP exL [tC7, tBc] exL.length = [] := by
    show allP exL [tC7, tBc] 3 = _
    rw [exA]; simp [mtB, exc0, exc1, exc2]; decide
  rw [exV, hs, ha] at h; exact h
theorem ex4 : PCall Try.prog (.func 18) [.sl 5 (exL.map nrow) .full, .sl 4 ([tI1, tTx].map trow) .full, .int .i64 3] (.tup [.bool true, .int .i64 0]) := by
  have h := mch_w exL [tI1, tTx] .full .full 3
  have hs : selB [tI1, tTx] = true := by decide
  have hi : idx exL 3 = 2 := by decide
  have ha : mtB exL [tI1, tTx] 2 2 = true := by simp [mtB, exc0, exc1, exc2]; decide
  rw [exV, hs, hi] at h
  have e : mtB exL [tI1, tTx] ([tI1, tTx] : List Ts).length (2 : Int).toNat = true := ha
  rw [e] at h; exact h
theorem ex5 : PCall Try.prog (.func 18) [.sl 5 (exL.map nrow) .full, .sl 4 ([tI1, tCh].map trow) .full, .int .i64 3] (.tup [.bool false, .int .i64 0]) := by
  have h := mch_w exL [tI1, tCh] .full .full 3
  have hs : selB [tI1, tCh] = true := by decide
  have hi : idx exL 3 = 2 := by decide
  have ha : mtB exL [tI1, tCh] 2 2 = false := by simp [mtB, exc0, exc1, exc2]; decide
  rw [exV, hs, hi] at h
  have e : mtB exL [tI1, tCh] ([tI1, tCh] : List Ts).length (2 : Int).toNat = false := ha
  rw [e] at h; exact h
theorem ex6 : PCall Try.prog (.func 25) [.sl 4 ([tI1, tCh].map trow) .full] (.tup [.int .i64 10001, .int .i64 0]) := by
  have h := swt_w [tI1, tCh] .full
  rw [show selB [tI1, tCh] = true by decide, show wtL [tI1, tCh] = 10001 by decide] at h; exact h
theorem ex7 : PCall Try.prog (.func 25) [.sl 4 ([tC7, tBl].map trow) .full] (.tup [.int .i64 101, .int .i64 0]) := by
  have h := swt_w [tC7, tBl] .full
  rw [show selB [tC7, tBl] = true by decide, show wtL [tC7, tBl] = 101 by decide] at h; exact h
theorem ex8 : PCall Try.prog (.func 18) [.sl 5 (exL.map nrow) .full, .sl 4 ([tTx].map trow) .full, .int .i64 4] (.tup [.bool false, .int .i64 4]) := by
  have h := mch_w exL [tTx] .full .full 4
  have hs : selB [tTx] = true := by decide
  have hi : idx exL 4 = -1 := by decide
  rw [exV, hs, hi] at h; exact h
theorem ex9 : PCall Try.prog (.func 20) [.sl 4 ([tTx].map trow) .full] (.bool true) := by
  have h := sel_w [tTx] .full
  rw [show selB [tTx] = true by decide] at h; exact h
theorem exa : PCall Try.prog (.func 20) [.sl 4 ([tCh].map trow) .full] (.bool false) := by
  have h := sel_w [tCh] .full
  rw [show selB [tCh] = false by decide] at h; exact h
theorem exb : PCall Try.prog (.func 20) [.sl 0 [] .nil] (.bool false) := by
  intro M w vs hc hr
  refine (show PCall Try.prog (.func 20) [.sl 4 (([] : List Ts).map trow) .nil] (.bool false) from by have h := sel_w [] .nil; rwa [show selB [] = false by decide] at h) M w vs hc ?_
  match vs, hr with
  | [a], hr =>
    simp only [RAll, R, List.map_nil] at hr ⊢
    obtain ⟨⟨p, cap, e, h1, h2, h3, h4⟩, -⟩ := hr
    exact ⟨⟨p, cap, e, h1, h2, fun h => absurd rfl h, h4⟩, trivial⟩
attribute [local go_sem ↓] vo_nil vK_eq vo_q vo_g vo_n vo_c vd_nil dK_eq eK_eq vd_q vd_g vd_n vd_st vd_c cgs_call cgs_builtin
attribute [local go_sem] Ext_refl Ext_cons
attribute [local go_sem] quiet_move quiet_assign quiet_pick quiet_binOp quiet_unOp quiet_convert quiet_field quiet_fieldAddr quiet_indexAddr quiet_index quiet_load quiet_lookup quiet_extract quiet_build quiet_makeInterface quiet_makeFunc quiet_slice quiet_nilCheck quiet_alloc isCall_alloc quiet_box isCall_box quiet_buildSlice isCall_buildSlice quiet_store isCall_store quiet_range isCall_range quiet_next isCall_next quiet_makeSlice isCall_makeSlice quiet_panic isCall_panic quiet_len quiet_cap quiet_min quiet_max quiet_append isCall_append quiet_copy isCall_copy quiet_delete isCall_delete nqk_alloc nqk_box nqk_buildSlice nqk_range nqk_next nqk_makeSlice nqk_panic nqk_makeMap nqk_entry nqk_append nqk_copy nqk_delete isSt_alloc isSt_box isSt_buildSlice isSt_range isSt_next isSt_makeSlice isSt_panic isSt_makeMap isSt_entry isSt_store isSt_mapUpdate isSt_insert isSt_append isSt_copy isSt_delete quiet_makeMap isCall_makeMap quiet_mapUpdate isCall_mapUpdate quiet_insert isCall_insert
attribute [local go_sem] argEnv qev opd put_some put_none set_at mk_cons mk_nil prune_eq D.ofV ofC_int ofC_nil ofC_str ofC_nilmap ofC_nilfunc ofC_nilptr true_and ofC_bool bop isSh ibop Bool.false_eq_true if_false if_true and_self D.core D.cg qpick isB bof gval look Option.bind_some opc cgs Op.operands List.all_cons List.all_nil Bool.and_true and_true true_imp_iff imp_self false_imp_iff beq_true beq_false beq_iff_eq decide_eq_true_eq List.map_cons List.map_nil Bool.not_eq_true' decide_eq_false_iff_not gof gq gev cond_some Option.isSome_some Bool.or_eq_true Bool.and_eq_true Bool.or_eq_false_iff Bool.and_eq_false_iff Bool.not_eq_true Bool.not_eq_false Bool.not_eq_false' ne_eq implies_true forall_const Bool.cond_true_left Bool.cond_false_right not_false_eq_true not_true_eq_false Int.toNat_natCast Int.toNat_zero
attribute [local go_sem] qbuiltin qlook ments foldI mget mput keqD keyOK lookD_s lookD_n lookD_fs lookD_fn nput agop deqF deq1 nappZ cond_true cond_false Option.getD_some Option.getD_none Option.isSome_none ite_self qindex qslice qconv qextract qfield qfaddr qiaddr qload quop qiface qbuild qnil ldC ldD ob List.drop_succ_cons take_mapr drop_mapr List.drop_zero List.take_succ_cons List.take_zero List.length_cons List.length_nil List.getElem?_cons_zero List.getElem?_cons_succ Option.map_some Option.map_none List.head?_cons
attribute [local go_sem] nev isImm List.contains_cons List.contains_nil Bool.or_false Bool.or_true D.flat D.cellsOf D.isCell Bool.or_self Bool.and_self szOf nstore Store.get Store.upd putCells nk_cons not_or FZ frzE_mk frzL inL frz Store.del or_false boxCells List.headD_cons List.headD_nil List.nil_append List.append_nil List.cons_append List.drop_nil false_and and_false false_or true_or or_true Bool.false_and Bool.true_and Bool.false_or Bool.true_or Bool.and_false setPs lim_eq chunk zrep pls_eq plsF fillD resAll shop sbop bbop decide_true decide_false Bool.not_true Bool.not_false eq_self
attribute [local go_sem] tf0 tf1 tf2 tf3 tf4 tf5 tf6 tf7 tf8 tf9 tf10 tf11 tf12 tf13 tf14 tf15 tf16 tf17 tf18 tf19 tf20 tf21 tf22 tf23 tf24 tf25 tf26 tf27 tf28 tf29 tf30 tf31 tf32 tf33 tf34 tf35 tf36 tf37 tf38 tf39 tf40 tf41 tf42 tf43 tf44 tf45 tf46 tf47 tf48 tf49 tf50 tf51 tf52 tf53 tf54 tf55 tf56 tf57 tf58 tf59 tf60 tf61 tf62 tf63 tf64 tf65 tf66 tf67 tf68 tf69 tf70 tf71 tf72 tf73 tf74 tf75 tf76 tf77 tf78 tf79 tf80 tf81 tf82 tf83 tf84 tf85 tf86 tf87 tf88 tf89 tf90 tf91 tf92 tf93 tf94 tf95 tf96 tf97 tf98 tf99 tf100 tf101 tf102 tf103 tf104 tf105 tf106 tf107 tf108 tf109 tf110 tf111 tf112 tf113 tf114 tf115 tf116 tf117 tf118 tf119 tf120 tf121 tf122 tf123 tf124 tf125 tf126 tf127 tf128 tf129 tf130 tf131 tf132 tf133 tf134 tf135 tf136 tf137 tf138 tf139 tf140 tf141 tf142 tf143 tf144 tf145 tf146 tf147 tf148 tf149 tf150 tf151 tf152 tf153 tf154 tf155 tf156 tf157 tf158 tf159 tf160 tf161 tf162 tf163 tf164 tf165 tf166 tf167 tf168 tf169 tf170 tf171 tf172 tf173 tf174 tf175 tf176 tf177 tf178 tf179 tf180 tf181 tf182 tf183 tf184 tf185 tf186 tf187 tf188 tf189 tf190 tf191 tf192 tf193 tf194 tf195 tf196 tf197 tf198 tf199 tf200 tf201 tf202 tf203 tf204 tf205 tf206 tf207 tf208 tf209 tf210 tf211 tf212 tf213 tf214 tf215 tf216 tf217 tf218 tf219 tf220 tf221 tf222 tf223 tf224 tf225 tf226 tf227 tf228 tf229 tf230 tf231 tf232 tf233 tf234 tf235 tf236 tf237 tf238 tf239 tf240 tf241 tf242 tf243 tf244 tf245 tf246 tf247 tf248 tf249 tf250 tf251 tf252
attribute [local go_sem] List.length_map rowAt_n nrow rowAt_t trow rowAt_i irow
attribute [local go_sem] for_put for_put' for_look for_look'
theorem exam_w  : PCall Try.prog (.func 52) [] (.sl 5 (exL.map nrow) .full) := by
  refine PCall.le ?_
  refine fn_ Try.func52 (by rfl) (by rfl) (rs := [.tmp 0]) (by rfl) (by simp [Try.f52]) ?_
  refine sq ?_
  refine rg [] [] [] (by kernel_rfl) ?_; intro κ ξ hκ hξ
  try simp (config := { decide := true }) only [go_sem, Nat.reduceMul, Nat.reduceAdd, Nat.reduceBEq, cond_false]
  repeat with_reducible refine And.intro (by first | assumption | omega | (simp; done) | (simp; omega) | (intro hg; simp (config := { decide := true }) only [go_sem, hg]; done) | (intro hg; simp (config := { decide := true }) only [go_sem, hg]; omega)) ?_
  refine hκ _ _ ?_; clear hκ hξ ξ κ
  refine sq ?_
  refine rg [0] [] [] (by kernel_rfl) ?_; intro κ ξ hκ hξ
  try simp (config := { decide := true }) only [go_sem, Nat.reduceMul, Nat.reduceAdd, Nat.reduceBEq, cond_false]
  repeat with_reducible refine And.intro (by first | assumption | omega | (simp; done) | (simp; omega) | (intro hg; simp (config := { decide := true }) only [go_sem, hg]; done) | (intro hg; simp (config := { decide := true }) only [go_sem, hg]; omega)) ?_
  refine hκ _ _ ?_; clear hκ hξ ξ κ
  refine rt ?_
  refine retE ?_
  simp (config := { decide := true }) only [go_sem, resD, resV]
  all_goals rfl

theorem head_w  : PCall Try.prog (.func 16) [] (.bool true) := by
  refine PCall.le ?_
  refine fn_ Try.func16 (by rfl) (by rfl) (rs := [.tmp 0]) (by rfl) (by simp [Try.f16]) ?_
  refine sq ?_
  refine rg [] [] [] (by kernel_rfl) ?_; intro κ ξ hκ hξ
  try simp (config := { decide := true }) only [go_sem, Nat.reduceMul, Nat.reduceAdd, Nat.reduceBEq, cond_false]
  repeat with_reducible refine And.intro (by first | assumption | omega | (simp; done) | (simp; omega) | (intro hg; simp (config := { decide := true }) only [go_sem, hg]; done) | (intro hg; simp (config := { decide := true }) only [go_sem, hg]; omega)) ?_
  refine hκ _ _ ?_; clear hκ hξ ξ κ
  refine sq ?_
  refine rgz [(1, []), (2, [])] [1, 2] [] [] (by kernel_rfl) ?_; intro κ ξ hκ hξ
  try simp (config := { decide := true }) only [go_sem, Nat.reduceMul, Nat.reduceAdd, Nat.reduceBEq, cond_false]
  repeat with_reducible refine And.intro (by first | assumption | omega | (simp; done) | (simp; omega) | (intro hg; simp (config := { decide := true }) only [go_sem, hg]; done) | (intro hg; simp (config := { decide := true }) only [go_sem, hg]; omega)) ?_
  intro b1 hb1
  try simp (config := { decide := true }) only [go_sem, Nat.reduceMul, Nat.reduceAdd, Nat.reduceBEq, cond_false, hb1]
  repeat with_reducible refine And.intro (by first | assumption | omega | (simp; done) | (simp; omega) | (intro hg; simp (config := { decide := true }) only [go_sem, hg]; done) | (intro hg; simp (config := { decide := true }) only [go_sem, hg]; omega)) ?_
  intro b2 hb2
  try simp (config := { decide := true }) only [go_sem, Nat.reduceMul, Nat.reduceAdd, Nat.reduceBEq, cond_false, hb1, hb2]
  repeat with_reducible refine And.intro (by first | assumption | omega | (simp; done) | (simp; omega) | (intro hg; simp (config := { decide := true }) only [go_sem, hg]; done) | (intro hg; simp (config := { decide := true }) only [go_sem, hg]; omega)) ?_
  refine hκ _ _ ?_; clear hκ hξ ξ κ
  refine sq ?_
  refine rgz [(3, [])] [1, 2, 3] [] [] (by kernel_rfl) ?_; intro κ ξ hκ hξ
  try simp (config := { decide := true }) only [go_sem, Nat.reduceMul, Nat.reduceAdd, Nat.reduceBEq, cond_false, hb1, hb2]
  repeat with_reducible refine And.intro (by first | assumption | omega | (simp; done) | (simp; omega) | (intro hg; simp (config := { decide := true }) only [go_sem, hg]; done) | (intro hg; simp (config := { decide := true }) only [go_sem, hg]; omega)) ?_
  intro b3 hb3
  try simp (config := { decide := true }) only [go_sem, Nat.reduceMul, Nat.reduceAdd, Nat.reduceBEq, cond_false, hb1, hb2, hb3]
  repeat with_reducible refine And.intro (by first | assumption | omega | (simp; done) | (simp; omega) | (intro hg; simp (config := { decide := true }) only [go_sem, hg]; done) | (intro hg; simp (config := { decide := true }) only [go_sem, hg]; omega)) ?_
  refine hκ _ _ ?_; clear hκ hξ ξ κ
  refine sq ?_
  refine rgd [1, 2, 3, 4, 5] [] [25, 29] [] (by kernel_rfl) (by kernel_rfl) ?_; intro κ ξ hκ hξ
  try simp (config := { decide := true }) only [go_sem, Nat.reduceMul, Nat.reduceAdd, Nat.reduceBEq, cond_false, hb1, hb2, hb3]
  repeat with_reducible refine And.intro (by first | assumption | omega | (simp; done) | (simp; omega) | (intro hg; simp (config := { decide := true }) only [go_sem, hg]; done) | (intro hg; simp (config := { decide := true }) only [go_sem, hg]; omega)) ?_
  refine scallF (exam_w) ?_
  try simp (config := { decide := true }) only [go_sem, Nat.reduceMul, Nat.reduceAdd, Nat.reduceBEq, cond_false, hb1, hb2, hb3]
  repeat with_reducible refine And.intro (by first | assumption | omega | (simp; done) | (simp; omega) | (intro hg; simp (config := { decide := true }) only [go_sem, hg]; done) | (intro hg; simp (config := { decide := true }) only [go_sem, hg]; omega)) ?_
  refine scallF (ex1) ?_
  try simp (config := { decide := true }) only [go_sem, Nat.reduceMul, Nat.reduceAdd, Nat.reduceBEq, cond_false, hb1, hb2, hb3]
  repeat with_reducible refine And.intro (by first | assumption | omega | (simp; done) | (simp; omega) | (intro hg; simp (config := { decide := true }) only [go_sem, hg]; done) | (intro hg; simp (config := { decide := true }) only [go_sem, hg]; omega)) ?_
  refine hκ _ _ ?_; clear hκ hξ ξ κ
  refine sq ?_
  refine rgd [2, 3, 4, 5, 6, 7] [] [33, 37] [] (by kernel_rfl) (by kernel_rfl) ?_; intro κ ξ hκ hξ
  try simp (config := { decide := true }) only [go_sem, Nat.reduceMul, Nat.reduceAdd, Nat.reduceBEq, cond_false, hb1, hb2, hb3]
  repeat with_reducible refine And.intro (by first | assumption | omega | (simp; done) | (simp; omega) | (intro hg; simp (config := { decide := true }) only [go_sem, hg]; done) | (intro hg; simp (config := { decide := true }) only [go_sem, hg]; omega)) ?_
  refine scallF (exam_w) ?_
  try simp (config := { decide := true }) only [go_sem, Nat.reduceMul, Nat.reduceAdd, Nat.reduceBEq, cond_false, hb1, hb2, hb3]
  repeat with_reducible refine And.intro (by first | assumption | omega | (simp; done) | (simp; omega) | (intro hg; simp (config := { decide := true }) only [go_sem, hg]; done) | (intro hg; simp (config := { decide := true }) only [go_sem, hg]; omega)) ?_
  refine scallF (ex2) ?_
  try simp (config := { decide := true }) only [go_sem, Nat.reduceMul, Nat.reduceAdd, Nat.reduceBEq, cond_false, hb1, hb2, hb3]
  repeat with_reducible refine And.intro (by first | assumption | omega | (simp; done) | (simp; omega) | (intro hg; simp (config := { decide := true }) only [go_sem, hg]; done) | (intro hg; simp (config := { decide := true }) only [go_sem, hg]; omega)) ?_
  refine hκ _ _ ?_; clear hκ hξ ξ κ
  refine sq ?_
  refine rg [2, 3, 4, 5, 6, 7, 8, 9] [] [] (by kernel_rfl) ?_; intro κ ξ hκ hξ
  try simp (config := { decide := true }) only [go_sem, Nat.reduceMul, Nat.reduceAdd, Nat.reduceBEq, cond_false, hb1, hb2, hb3]
  repeat with_reducible refine And.intro (by first | assumption | omega | (simp; done) | (simp; omega) | (intro hg; simp (config := { decide := true }) only [go_sem, hg]; done) | (intro hg; simp (config := { decide := true }) only [go_sem, hg]; omega)) ?_
  refine callF (exam_w) ?_
  try simp (config := { decide := true }) only [go_sem, Nat.reduceMul, Nat.reduceAdd, Nat.reduceBEq, cond_false, hb1, hb2, hb3]
  repeat with_reducible refine And.intro (by first | assumption | omega | (simp; done) | (simp; omega) | (intro hg; simp (config := { decide := true }) only [go_sem, hg]; done) | (intro hg; simp (config := { decide := true }) only [go_sem, hg]; omega)) ?_
  refine callF ex3 ?_
  try simp (config := { decide := true }) only [go_sem, Nat.reduceMul, Nat.reduceAdd, Nat.reduceBEq, cond_false, hb1, hb2, hb3]
  repeat with_reducible refine And.intro (by first | assumption | omega | (simp; done) | (simp; omega) | (intro hg; simp (config := { decide := true }) only [go_sem, hg]; done) | (intro hg; simp (config := { decide := true }) only [go_sem, hg]; omega)) ?_
  refine hκ _ _ ?_; clear hκ hξ ξ κ
  refine sq ?_
  refine rgd [2, 3, 4, 5, 6, 7, 8, 9, 10, 11] [] [49, 53] [] (by kernel_rfl) (by kernel_rfl) ?_; intro κ ξ hκ hξ
  try simp (config := { decide := true }) only [go_sem, Nat.reduceMul, Nat.reduceAdd, Nat.reduceBEq, cond_false, hb1, hb2, hb3]
  repeat with_reducible refine And.intro (by first | assumption | omega | (simp; done) | (simp; omega) | (intro hg; simp (config := { decide := true }) only [go_sem, hg]; done) | (intro hg; simp (config := { decide := true }) only [go_sem, hg]; omega)) ?_
  refine scallF (exam_w) ?_
  try simp (config := { decide := true }) only [go_sem, Nat.reduceMul, Nat.reduceAdd, Nat.reduceBEq, cond_false, hb1, hb2, hb3]
  repeat with_reducible refine And.intro (by first | assumption | omega | (simp; done) | (simp; omega) | (intro hg; simp (config := { decide := true }) only [go_sem, hg]; done) | (intro hg; simp (config := { decide := true }) only [go_sem, hg]; omega)) ?_
  refine scallF (ex4) ?_
  try simp (config := { decide := true }) only [go_sem, Nat.reduceMul, Nat.reduceAdd, Nat.reduceBEq, cond_false, hb1, hb2, hb3]
  repeat with_reducible refine And.intro (by first | assumption | omega | (simp; done) | (simp; omega) | (intro hg; simp (config := { decide := true }) only [go_sem, hg]; done) | (intro hg; simp (config := { decide := true }) only [go_sem, hg]; omega)) ?_
  refine hκ _ _ ?_; clear hκ hξ ξ κ
  refine sq ?_
  refine rgd [2, 3, 4, 5, 6, 7, 8, 9, 10, 11, 12, 13] [] [57, 61] [] (by kernel_rfl) (by kernel_rfl) ?_; intro κ ξ hκ hξ
  try simp (config := { decide := true }) only [go_sem, Nat.reduceMul, Nat.reduceAdd, Nat.reduceBEq, cond_false, hb1, hb2, hb3]
  repeat with_reducible refine And.intro (by first | assumption | omega | (simp; done) | (simp; omega) | (intro hg; simp (config := { decide := true }) only [go_sem, hg]; done) | (intro hg; simp (config := { decide := true }) only [go_sem, hg]; omega)) ?_
  refine scallF (exam_w) ?_
  try simp (config := { decide := true }) only [go_sem, Nat.reduceMul, Nat.reduceAdd, Nat.reduceBEq, cond_false, hb1, hb2, hb3]
  repeat with_reducible refine And.intro (by first | assumption | omega | (simp; done) | (simp; omega) | (intro hg; simp (config := { decide := true }) only [go_sem, hg]; done) | (intro hg; simp (config := { decide := true }) only [go_sem, hg]; omega)) ?_
  refine scallF (ex5) ?_
  try simp (config := { decide := true }) only [go_sem, Nat.reduceMul, Nat.reduceAdd, Nat.reduceBEq, cond_false, hb1, hb2, hb3]
  repeat with_reducible refine And.intro (by first | assumption | omega | (simp; done) | (simp; omega) | (intro hg; simp (config := { decide := true }) only [go_sem, hg]; done) | (intro hg; simp (config := { decide := true }) only [go_sem, hg]; omega)) ?_
  refine hκ _ _ ?_; clear hκ hξ ξ κ
  refine sq ?_
  refine rg [2, 3, 4, 5, 6, 7, 8, 9, 10, 11, 12, 13, 14, 15] [] [] (by kernel_rfl) ?_; intro κ ξ hκ hξ
  try simp (config := { decide := true }) only [go_sem, Nat.reduceMul, Nat.reduceAdd, Nat.reduceBEq, cond_false, hb1, hb2, hb3]
  repeat with_reducible refine And.intro (by first | assumption | omega | (simp; done) | (simp; omega) | (intro hg; simp (config := { decide := true }) only [go_sem, hg]; done) | (intro hg; simp (config := { decide := true }) only [go_sem, hg]; omega)) ?_
  refine callF ex6 ?_
  try simp (config := { decide := true }) only [go_sem, Nat.reduceMul, Nat.reduceAdd, Nat.reduceBEq, cond_false, hb1, hb2, hb3]
  repeat with_reducible refine And.intro (by first | assumption | omega | (simp; done) | (simp; omega) | (intro hg; simp (config := { decide := true }) only [go_sem, hg]; done) | (intro hg; simp (config := { decide := true }) only [go_sem, hg]; omega)) ?_
  refine hκ _ _ ?_; clear hκ hξ ξ κ
  refine sq ?_
  refine rg [2, 3, 4, 5, 6, 7, 8, 9, 10, 11, 12, 13, 14, 15, 16, 17] [] [] (by kernel_rfl) ?_; intro κ ξ hκ hξ
  try simp (config := { decide := true }) only [go_sem, Nat.reduceMul, Nat.reduceAdd, Nat.reduceBEq, cond_false, hb1, hb2, hb3]
  repeat with_reducible refine And.intro (by first | assumption | omega | (simp; done) | (simp; omega) | (intro hg; simp (config := { decide := true }) only [go_sem, hg]; done) | (intro hg; simp (config := { decide := true }) only [go_sem, hg]; omega)) ?_
  refine callF ex7 ?_
  try simp (config := { decide := true }) only [go_sem, Nat.reduceMul, Nat.reduceAdd, Nat.reduceBEq, cond_false, hb1, hb2, hb3]
  repeat with_reducible refine And.intro (by first | assumption | omega | (simp; done) | (simp; omega) | (intro hg; simp (config := { decide := true }) only [go_sem, hg]; done) | (intro hg; simp (config := { decide := true }) only [go_sem, hg]; omega)) ?_
  refine hκ _ _ ?_; clear hκ hξ ξ κ
  refine sq ?_
  refine rgd [2, 3, 4, 5, 6, 7, 8, 9, 10, 11, 12, 13, 14, 15, 16, 17, 19] [] [79, 82] [] (by kernel_rfl) (by kernel_rfl) ?_; intro κ ξ hκ hξ
  try simp (config := { decide := true }) only [go_sem, Nat.reduceMul, Nat.reduceAdd, Nat.reduceBEq, cond_false, hb1, hb2, hb3]
  repeat with_reducible refine And.intro (by first | assumption | omega | (simp; done) | (simp; omega) | (intro hg; simp (config := { decide := true }) only [go_sem, hg]; done) | (intro hg; simp (config := { decide := true }) only [go_sem, hg]; omega)) ?_
  refine scallF (exam_w) ?_
  try simp (config := { decide := true }) only [go_sem, Nat.reduceMul, Nat.reduceAdd, Nat.reduceBEq, cond_false, hb1, hb2, hb3]
  repeat with_reducible refine And.intro (by first | assumption | omega | (simp; done) | (simp; omega) | (intro hg; simp (config := { decide := true }) only [go_sem, hg]; done) | (intro hg; simp (config := { decide := true }) only [go_sem, hg]; omega)) ?_
  refine scallF (ex8) ?_
  try simp (config := { decide := true }) only [go_sem, Nat.reduceMul, Nat.reduceAdd, Nat.reduceBEq, cond_false, hb1, hb2, hb3]
  repeat with_reducible refine And.intro (by first | assumption | omega | (simp; done) | (simp; omega) | (intro hg; simp (config := { decide := true }) only [go_sem, hg]; done) | (intro hg; simp (config := { decide := true }) only [go_sem, hg]; omega)) ?_
  refine hκ _ _ ?_; clear hκ hξ ξ κ
  refine sq ?_
  refine rg [2, 3, 4, 6, 8, 10, 12, 14, 16, 20] [] [(2, 87), (6, 91), (10, 95), (14, 99), (18, 103), (22, 107), (26, 111)] (by kernel_rfl) ?_; intro κ ξ hκ hξ
  try simp (config := { decide := true }) only [go_sem, Nat.reduceMul, Nat.reduceAdd, Nat.reduceBEq, cond_false, hb1, hb2, hb3]
  repeat with_reducible refine And.intro (by first | assumption | omega | (simp; done) | (simp; omega) | (intro hg; simp (config := { decide := true }) only [go_sem, hg]; done) | (intro hg; simp (config := { decide := true }) only [go_sem, hg]; omega)) ?_
  refine hκ _ _ ?_; clear hκ hξ ξ κ
  refine sq ?_
  refine rg [2, 3, 20] [] [(1, 116), (6, 121), (11, 126), (16, 131), (19, 134), (23, 138), (27, 142)] (by kernel_rfl) ?_; intro κ ξ hκ hξ
  try simp (config := { decide := true }) only [go_sem, Nat.reduceMul, Nat.reduceAdd, Nat.reduceBEq, cond_false, hb1, hb2, hb3]
  repeat with_reducible refine And.intro (by first | assumption | omega | (simp; done) | (simp; omega) | (intro hg; simp (config := { decide := true }) only [go_sem, hg]; done) | (intro hg; simp (config := { decide := true }) only [go_sem, hg]; omega)) ?_
  refine vo_gt (by rfl) (by first | rfl | (simp (config := { decide := true }) only [go_sem]; done)) (by first | rfl | (simp (config := { decide := true }) only [go_sem]; done)) ?_
  try simp (config := { decide := true }) only [go_sem, Nat.reduceMul, Nat.reduceAdd, Nat.reduceBEq, cond_false]
  repeat with_reducible refine And.intro (by first | assumption | omega | (simp; done) | (simp; omega) | (intro hg; simp (config := { decide := true }) only [go_sem, hg]; done) | (intro hg; simp (config := { decide := true }) only [go_sem, hg]; omega)) ?_
  refine vo_gc ?_; simp (config := { decide := true }) only [go_sem, hb1, hb2, hb3]; refine gcallF (fun hg => ⟨by first | rfl | (simp (config := { decide := true }) only [go_sem, hg, hb1, hb2, hb3]; done) | exact hg | simpa using hg, sameI2_w [3] [3] .no .full⟩) ?_
  try simp (config := { decide := true }) only [go_sem, Nat.reduceMul, Nat.reduceAdd, Nat.reduceBEq, cond_false, hb1, hb2, hb3]
  repeat with_reducible refine And.intro (by first | assumption | omega | (simp; done) | (simp; omega) | (intro hg; simp (config := { decide := true }) only [go_sem, hg]; done) | (intro hg; simp (config := { decide := true }) only [go_sem, hg]; omega)) ?_
  refine vo_gt (by rfl) (by first | rfl | (simp (config := { decide := true }) only [go_sem]; done)) (by first | rfl | (simp (config := { decide := true }) only [go_sem]; done)) ?_
  try simp (config := { decide := true }) only [go_sem, Nat.reduceMul, Nat.reduceAdd, Nat.reduceBEq, cond_false]
  repeat with_reducible refine And.intro (by first | assumption | omega | (simp; done) | (simp; omega) | (intro hg; simp (config := { decide := true }) only [go_sem, hg]; done) | (intro hg; simp (config := { decide := true }) only [go_sem, hg]; omega)) ?_
  refine vo_gc ?_; simp (config := { decide := true }) only [go_sem, hb1, hb2, hb3]; refine gcallF (fun hg => ⟨by first | rfl | (simp (config := { decide := true }) only [go_sem, hg, hb1, hb2, hb3]; done) | exact hg | simpa using hg, sameI2_w [3] [3] .no .full⟩) ?_
  try simp (config := { decide := true }) only [go_sem, Nat.reduceMul, Nat.reduceAdd, Nat.reduceBEq, cond_false, hb1, hb2, hb3]
  repeat with_reducible refine And.intro (by first | assumption | omega | (simp; done) | (simp; omega) | (intro hg; simp (config := { decide := true }) only [go_sem, hg]; done) | (intro hg; simp (config := { decide := true }) only [go_sem, hg]; omega)) ?_
  refine hκ _ _ ?_; clear hκ hξ ξ κ
  refine sq ?_
  refine rg [0] [] [(1, 147), (6, 152), (12, 158)] (by kernel_rfl) ?_; intro κ ξ hκ hξ
  try simp (config := { decide := true }) only [go_sem, Nat.reduceMul, Nat.reduceAdd, Nat.reduceBEq, cond_false, hb1, hb2, hb3]
  repeat with_reducible refine And.intro (by first | assumption | omega | (simp; done) | (simp; omega) | (intro hg; simp (config := { decide := true }) only [go_sem, hg]; done) | (intro hg; simp (config := { decide := true }) only [go_sem, hg]; omega)) ?_
  refine vo_gt (by rfl) (by first | rfl | (simp (config := { decide := true }) only [go_sem]; done)) (by first | rfl | (simp (config := { decide := true }) only [go_sem]; done)) ?_
  try simp (config := { decide := true }) only [go_sem, Nat.reduceMul, Nat.reduceAdd, Nat.reduceBEq, cond_false]
  repeat with_reducible refine And.intro (by first | assumption | omega | (simp; done) | (simp; omega) | (intro hg; simp (config := { decide := true }) only [go_sem, hg]; done) | (intro hg; simp (config := { decide := true }) only [go_sem, hg]; omega)) ?_
  refine vo_gc ?_; simp (config := { decide := true }) only [go_sem, hb1, hb2, hb3]; refine gcallF (fun hg => ⟨by first | rfl | (simp (config := { decide := true }) only [go_sem, hg, hb1, hb2, hb3]; done) | exact hg | simpa using hg, ex9⟩) ?_
  try simp (config := { decide := true }) only [go_sem, Nat.reduceMul, Nat.reduceAdd, Nat.reduceBEq, cond_false, hb1, hb2, hb3]
  repeat with_reducible refine And.intro (by first | assumption | omega | (simp; done) | (simp; omega) | (intro hg; simp (config := { decide := true }) only [go_sem, hg]; done) | (intro hg; simp (config := { decide := true }) only [go_sem, hg]; omega)) ?_
  refine vo_gt (by rfl) (by first | rfl | (simp (config := { decide := true }) only [go_sem]; done)) (by first | rfl | (simp (config := { decide := true }) only [go_sem]; done)) ?_
  try simp (config := { decide := true }) only [go_sem, Nat.reduceMul, Nat.reduceAdd, Nat.reduceBEq, cond_false]
  repeat with_reducible refine And.intro (by first | assumption | omega | (simp; done) | (simp; omega) | (intro hg; simp (config := { decide := true }) only [go_sem, hg]; done) | (intro hg; simp (config := { decide := true }) only [go_sem, hg]; omega)) ?_
  refine vo_gc ?_; simp (config := { decide := true }) only [go_sem, hb1, hb2, hb3]; refine gcallF (fun hg => ⟨by first | rfl | (simp (config := { decide := true }) only [go_sem, hg, hb1, hb2, hb3]; done) | exact hg | simpa using hg, exa⟩) ?_
  try simp (config := { decide := true }) only [go_sem, Nat.reduceMul, Nat.reduceAdd, Nat.reduceBEq, cond_false, hb1, hb2, hb3]
  repeat with_reducible refine And.intro (by first | assumption | omega | (simp; done) | (simp; omega) | (intro hg; simp (config := { decide := true }) only [go_sem, hg]; done) | (intro hg; simp (config := { decide := true }) only [go_sem, hg]; omega)) ?_
  refine vo_gc ?_; simp (config := { decide := true }) only [go_sem, hb1, hb2, hb3]; refine gcallF (fun hg => ⟨by first | rfl | (simp (config := { decide := true }) only [go_sem, hg, hb1, hb2, hb3]; done) | exact hg | simpa using hg, exb⟩) ?_
  try simp (config := { decide := true }) only [go_sem, Nat.reduceMul, Nat.reduceAdd, Nat.reduceBEq, cond_false, hb1, hb2, hb3]
  repeat with_reducible refine And.intro (by first | assumption | omega | (simp; done) | (simp; omega) | (intro hg; simp (config := { decide := true }) only [go_sem, hg]; done) | (intro hg; simp (config := { decide := true }) only [go_sem, hg]; omega)) ?_
  refine hκ _ _ ?_; clear hκ hξ ξ κ
  refine rt ?_
  refine retE ?_
  simp (config := { decide := true }) only [go_sem, resD, resV, hb1, hb2, hb3]
  all_goals simp

end Go.Proofs.Ytgccnkihonmlbaa

/- The walks of the selector's functions. Printed by a tool of our own. -/
import Derived.Test.YtgccnkihonmlbaaSj
namespace Go.Proofs.Ytgccnkihonmlbaa
open Go Go.RowKit
set_option linter.unusedSimpArgs false
set_option linter.unusedVariables false
set_option maxHeartbeats 4000000
set_option maxRecDepth 100000
theorem mt_w (l : List Nd) (ts : List Ts) (u : Tok) (hT : Tree l) (bm bq : Nat) (hq : ¬ bm = bq) : ∀ (k i : Nat), k ≤ 100 → i < l.length → k + 1 ≤ ts.length → RCall Try.prog (.func 84) [.ag (nrow (nat l i)), .int .i64 (((k + 1) : Nat) : Int), .el [.sl 4 (ts.map trow) u], .el [.mp bm], .ptr bq 0] ((bm, .map (forE (forL l))) :: (bq, .cells [(.fn (.func 84) [] [.el [.sl 4 (ts.map trow) u], .el [.mp bm], .ptr bq 0])]) :: []) (fun _ : Unit => .bool (mtB l ts (k + 1) i)) (fun _ => ((bm, .map (forE (forL l))) :: (bq, .cells [(.fn (.func 84) [] [.el [.sl 4 (ts.map trow) u], .el [.mp bm], .ptr bq 0])]) :: [])) (fun _ => True)
  | 0, i, h8, hi, hk => mt_s l ts u hT bm bq hq 0 i hi hk h8 (fun h => by omega)
  | k + 1, i, h8, hi, hk => mt_s l ts u hT bm bq hq (k + 1) i hi hk h8 (fun _ j hj => mt_w l ts u hT bm bq hq k j (by omega) hj (by omega))
def wc (w n b : Int) : Int := if n = 0 then w else IntKind.wrap .i64 (w + b)
theorem wc_sum {w : Int} (t : Ts) (h : 0 ≤ w ∧ w ≤ 100000) : wc (wc (wc w t.id 10000) t.cls 100) t.kind 1 = w + wt1 t := by
  have hw : ∀ z : Int, 0 ≤ z → z ≤ 200000 → IntKind.wrap .i64 z = z := fun z h1 h2 => w64 (by omega)
  unfold wc wt1
  by_cases h1 : t.id = 0 <;> by_cases h2 : t.cls = 0 <;> by_cases h3 : t.kind = 0 <;> simp only [h1, h2, h3, if_true, if_false, ne_eq, not_true_eq_false, not_false_eq_true] <;> (try simp (disch := omega) only [hw]) <;> omega
attribute [local go_sem ↓] vo_nil vK_eq vo_q vo_g vo_n vo_c vd_nil dK_eq eK_eq vd_q vd_g vd_n vd_st vd_c cgs_call cgs_builtin
attribute [local go_sem] Ext_refl Ext_cons
attribute [local go_sem] quiet_move quiet_assign quiet_pick quiet_binOp quiet_unOp quiet_convert quiet_field quiet_fieldAddr quiet_indexAddr quiet_index quiet_load quiet_lookup quiet_extract quiet_build quiet_makeInterface quiet_makeFunc quiet_slice quiet_nilCheck quiet_alloc isCall_alloc quiet_box isCall_box quiet_buildSlice isCall_buildSlice quiet_store isCall_store quiet_range isCall_range quiet_next isCall_next quiet_makeSlice isCall_makeSlice quiet_panic isCall_panic quiet_len quiet_cap quiet_min quiet_max quiet_append isCall_append quiet_copy isCall_copy quiet_delete isCall_delete nqk_alloc nqk_box nqk_buildSlice nqk_range nqk_next nqk_makeSlice nqk_panic nqk_makeMap nqk_entry nqk_append nqk_copy nqk_delete isSt_alloc isSt_box isSt_buildSlice isSt_range isSt_next isSt_makeSlice isSt_panic isSt_makeMap isSt_entry isSt_store isSt_mapUpdate isSt_insert isSt_append isSt_copy isSt_delete quiet_makeMap isCall_makeMap quiet_mapUpdate isCall_mapUpdate quiet_insert isCall_insert
attribute [local go_sem] argEnv qev opd put_some put_none set_at mk_cons mk_nil prune_eq D.ofV ofC_int ofC_nil ofC_str ofC_nilmap ofC_nilfunc ofC_nilptr true_and ofC_bool bop isSh ibop Bool.false_eq_true if_false if_true and_self D.core D.cg qpick isB bof gval look Option.bind_some opc cgs Op.operands List.all_cons List.all_nil Bool.and_true and_true true_imp_iff imp_self false_imp_iff beq_true beq_false beq_iff_eq decide_eq_true_eq List.map_cons List.map_nil Bool.not_eq_true' decide_eq_false_iff_not gof gq gev cond_some Option.isSome_some Bool.or_eq_true Bool.and_eq_true Bool.or_eq_false_iff Bool.and_eq_false_iff Bool.not_eq_true Bool.not_eq_false Bool.not_eq_false' ne_eq implies_true forall_const Bool.cond_true_left Bool.cond_false_right not_false_eq_true not_true_eq_false Int.toNat_natCast Int.toNat_zero
attribute [local go_sem] qbuiltin qlook ments foldI mget mput keqD keyOK lookD_s lookD_n lookD_fs lookD_fn nput agop deqF deq1 nappZ cond_true cond_false Option.getD_some Option.getD_none Option.isSome_none ite_self qindex qslice qconv qextract qfield qfaddr qiaddr qload quop qiface qbuild qnil ldC ldD ob List.drop_succ_cons take_mapr drop_mapr List.drop_zero List.take_succ_cons List.take_zero List.length_cons List.length_nil List.getElem?_cons_zero List.getElem?_cons_succ Option.map_some Option.map_none List.head?_cons
attribute [local go_sem] nev isImm List.contains_cons List.contains_nil Bool.or_false Bool.or_true D.flat D.cellsOf D.isCell Bool.or_self Bool.and_self szOf nstore Store.get Store.upd putCells nk_cons not_or FZ frzE_mk frzL inL frz Store.del or_false boxCells List.headD_cons List.headD_nil List.nil_append List.append_nil List.cons_append List.drop_nil false_and and_false false_or true_or or_true Bool.false_and Bool.true_and Bool.false_or Bool.true_or Bool.and_false setPs lim_eq chunk zrep pls_eq plsF fillD resAll shop sbop bbop decide_true decide_false Bool.not_true Bool.not_false eq_self
attribute [local go_sem] tf0 tf1 tf2 tf3 tf4 tf5 tf6 tf7 tf8 tf9 tf10 tf11 tf12 tf13 tf14 tf15 tf16 tf17 tf18 tf19 tf20 tf21 tf22 tf23 tf24 tf25 tf26 tf27 tf28 tf29 tf30 tf31 tf32 tf33 tf34 tf35 tf36 tf37 tf38 tf39 tf40 tf41 tf42 tf43 tf44 tf45 tf46 tf47 tf48 tf49 tf50 tf51 tf52 tf53 tf54 tf55 tf56 tf57 tf58 tf59 tf60 tf61 tf62 tf63 tf64 tf65 tf66 tf67 tf68 tf69 tf70 tf71 tf72 tf73 tf74 tf75 tf76 tf77 tf78 tf79 tf80 tf81 tf82 tf83 tf84 tf85 tf86 tf87 tf88 tf89 tf90 tf91 tf92 tf93 tf94 tf95 tf96 tf97 tf98 tf99 tf100 tf101 tf102 tf103 tf104 tf105 tf106 tf107 tf108 tf109 tf110 tf111 tf112 tf113 tf114 tf115 tf116 tf117 tf118 tf119 tf120 tf121 tf122 tf123 tf124 tf125 tf126 tf127 tf128 tf129 tf130 tf131 tf132 tf133 tf134 tf135 tf136 tf137 tf138 tf139 tf140 tf141 tf142 tf143 tf144 tf145 tf146 tf147 tf148 tf149 tf150 tf151 tf152 tf153 tf154 tf155 tf156 tf157 tf158 tf159 tf160 tf161 tf162 tf163 tf164 tf165 tf166 tf167 tf168 tf169 tf170 tf171 tf172 tf173 tf174 tf175 tf176 tf177 tf178 tf179 tf180 tf181 tf182 tf183 tf184 tf185 tf186 tf187 tf188 tf189 tf190 tf191 tf192 tf193 tf194 tf195 tf196 tf197 tf198 tf199 tf200 tf201 tf202 tf203 tf204 tf205 tf206 tf207 tf208 tf209 tf210 tf211 tf212 tf213 tf214 tf215 tf216 tf217 tf218 tf219 tf220 tf221 tf222 tf223 tf224 tf225 tf226 tf227 tf228 tf229 tf230 tf231 tf232 tf233 tf234 tf235 tf236 tf237 tf238 tf239 tf240 tf241 tf242 tf243 tf244 tf245 tf246 tf247 tf248 tf249 tf250 tf251 tf252
attribute [local go_sem] List.length_map rowAt_n nrow rowAt_t trow rowAt_i irow
attribute [local go_sem] for_put for_put' for_look for_look'
theorem mtr_w (ts : List Ts) (u : Tok) (bm : Nat) : RCall Try.prog (.func 54) [.mp bm, .sl 4 (ts.map trow) u] [] (fun (bq : Nat) => (.fn (.func 84) [] [.el [.sl 4 (ts.map trow) u], .el [.mp bm], .ptr bq 0])) (fun (bq : Nat) => [(bq, .cells [(.fn (.func 84) [] [.el [.sl 4 (ts.map trow) u], .el [.mp bm], .ptr bq 0])])]) (fun (bq : Nat) => True) := by
  refine fn_ Try.func54 (by rfl) (by rfl) (rs := [.tmp 4]) (by rfl) (by simp [Try.f54]) ?_
  refine sq ?_
  refine rg [2, 3] [2, 3] [] (by kernel_rfl) ?_; intro κ ξ hκ hξ
  try simp (config := { decide := true }) only [go_sem, Nat.reduceMul, Nat.reduceAdd, Nat.reduceBEq, cond_false]
  repeat with_reducible refine And.intro (by first | assumption | omega | (simp; done) | (simp; omega) | (intro hg; simp (config := { decide := true }) only [go_sem, hg]; done) | (intro hg; simp (config := { decide := true }) only [go_sem, hg]; omega)) ?_
  refine hκ _ _ ?_; clear hκ hξ ξ κ
  refine sq ?_
  refine rg [2, 3, 5] [] [] (by kernel_rfl) ?_; intro κ ξ hκ hξ
  try simp (config := { decide := true }) only [go_sem, Nat.reduceMul, Nat.reduceAdd, Nat.reduceBEq, cond_false]
  repeat with_reducible refine And.intro (by first | assumption | omega | (simp; done) | (simp; omega) | (intro hg; simp (config := { decide := true }) only [go_sem, hg]; done) | (intro hg; simp (config := { decide := true }) only [go_sem, hg]; omega)) ?_
  intro b5 hb5
  try simp (config := { decide := true }) only [go_sem, Nat.reduceMul, Nat.reduceAdd, Nat.reduceBEq, cond_false, hb5]
  repeat with_reducible refine And.intro (by first | assumption | omega | (simp; done) | (simp; omega) | (intro hg; simp (config := { decide := true }) only [go_sem, hg]; done) | (intro hg; simp (config := { decide := true }) only [go_sem, hg]; omega)) ?_
  refine hκ _ _ ?_; clear hκ hξ ξ κ
  refine sq ?_
  refine rg [5] [] [] (by kernel_rfl) ?_; intro κ ξ hκ hξ
  try simp (config := { decide := true }) only [go_sem, Nat.reduceMul, Nat.reduceAdd, Nat.reduceBEq, cond_false, hb5]
  repeat with_reducible refine And.intro (by first | assumption | omega | (simp; done) | (simp; omega) | (intro hg; simp (config := { decide := true }) only [go_sem, hg]; done) | (intro hg; simp (config := { decide := true }) only [go_sem, hg]; omega)) ?_
  refine hκ _ _ ?_; clear hκ hξ ξ κ
  refine sq ?_
  refine rg [4] [] [] (by kernel_rfl) ?_; intro κ ξ hκ hξ
  try simp (config := { decide := true }) only [go_sem, Nat.reduceMul, Nat.reduceAdd, Nat.reduceBEq, cond_false, hb5]
  repeat with_reducible refine And.intro (by first | assumption | omega | (simp; done) | (simp; omega) | (intro hg; simp (config := { decide := true }) only [go_sem, hg]; done) | (intro hg; simp (config := { decide := true }) only [go_sem, hg]; omega)) ?_
  refine hκ _ _ ?_; clear hκ hξ ξ κ
  refine rt ?_
  refine retR (b5) ?_ ?_ ?_
  · first | exact .refl _ | exact List.nil_sublist _ | exact List.sublist_cons_of_sublist _ (.refl _) | exact ((List.Sublist.refl _).cons _).cons _ | (simp [*]; done) | skip
  · first | trivial | assumption | omega | (simp; done) | skip
  simp (config := { decide := true }) only [go_sem, resD, resV, hb5]
  all_goals simp

theorem mch_w (l : List Nd) (ts : List Ts) (t u : Tok) (x : Int) : PCall Try.prog (.func 18) [.sl 5 (l.map nrow) t, .sl 4 (ts.map trow) u, .int .i64 x] (.tup [.bool (treB l && selB ts && decide (0 ≤ idx l x) && mtB l ts ts.length (idx l x).toNat), .int .i64 (if (treB l && selB ts) = true then (if 0 ≤ idx l x then 0 else 4) else 1)]) := by
  refine PCall.le ?_
  refine fn_ Try.func18 (by rfl) (by rfl) (rs := [.tmp 6, .tmp 7]) (by rfl) (by simp [Try.f18]) ?_
  refine sq ?_
  refine rg [0, 1, 2] [] [] (by kernel_rfl) ?_; intro κ ξ hκ hξ
  try simp (config := { decide := true }) only [go_sem, Nat.reduceMul, Nat.reduceAdd, Nat.reduceBEq, cond_false]
  repeat with_reducible refine And.intro (by first | assumption | omega | (simp; done) | (simp; omega) | (intro hg; simp (config := { decide := true }) only [go_sem, hg]; done) | (intro hg; simp (config := { decide := true }) only [go_sem, hg]; omega)) ?_
  refine hκ _ _ ?_; clear hκ hξ ξ κ
  refine sq ?_
  refine rg [1, 2, 8, 9] [] [] (by kernel_rfl) ?_; intro κ ξ hκ hξ
  try simp (config := { decide := true }) only [go_sem, Nat.reduceMul, Nat.reduceAdd, Nat.reduceBEq, cond_false]
  repeat with_reducible refine And.intro (by first | assumption | omega | (simp; done) | (simp; omega) | (intro hg; simp (config := { decide := true }) only [go_sem, hg]; done) | (intro hg; simp (config := { decide := true }) only [go_sem, hg]; omega)) ?_
  refine callR (prep_w l ts t u) fun bm _ => ?_
  try simp (config := { decide := true }) only [go_sem, Nat.reduceMul, Nat.reduceAdd, Nat.reduceBEq, cond_false]
  repeat with_reducible refine And.intro (by first | assumption | omega | (simp; done) | (simp; omega) | (intro hg; simp (config := { decide := true }) only [go_sem, hg]; done) | (intro hg; simp (config := { decide := true }) only [go_sem, hg]; omega)) ?_
  refine hκ _ _ ?_; clear hκ hξ ξ κ
  refine sq ?_
  refine sq ?_
  refine rg [1, 2, 8, 19] [] [] (by kernel_rfl) ?_; intro κ ξ hκ hξ
  try simp (config := { decide := true }) only [go_sem, Nat.reduceMul, Nat.reduceAdd, Nat.reduceBEq, cond_false]
  repeat with_reducible refine And.intro (by first | assumption | omega | (simp; done) | (simp; omega) | (intro hg; simp (config := { decide := true }) only [go_sem, hg]; done) | (intro hg; simp (config := { decide := true }) only [go_sem, hg]; omega)) ?_
  refine hκ _ _ ?_; clear hκ hξ ξ κ
  refine cd (by rfl) (fun c0 => ?_) (fun c0 => ?_)
  · skip
    refine sq ?_
    refine rg [6, 7] [] [] (by kernel_rfl) ?_; intro κ ξ hκ hξ
    try simp (config := { decide := true }) only [go_sem, Nat.reduceMul, Nat.reduceAdd, Nat.reduceBEq, cond_false, c0]
    repeat with_reducible refine And.intro (by first | assumption | omega | (simp; done) | (simp; omega) | (intro hg; simp (config := { decide := true }) only [go_sem, hg]; done) | (intro hg; simp (config := { decide := true }) only [go_sem, hg]; omega)) ?_
    refine hκ _ _ ?_; clear hκ hξ ξ κ
    refine rt ?_
    refine retE ?_
    simp (config := { decide := true }) only [go_sem, resD, resV, c0]
    cases h1 : treB l <;> cases h2 : selB ts <;> simp [h1, h2] at c0 ⊢
  · have hv : treB l = true ∧ selB ts = true := by
      cases h1 : treB l <;> cases h2 : selB ts <;> simp [h1, h2] at c0 ⊢
    obtain ⟨hv1, hv2⟩ := hv
    have hT := treB_true.1 hv1
    obtain ⟨⟨hk1, hk2⟩, -, -⟩ := sel_true.1 hv2
    obtain ⟨k, hk⟩ : ∃ k, ts.length = k + 1 := ⟨ts.length - 1, by omega⟩
    have hl4 := hT.len.2
    have hfg := for_get hT
    refine sk ?_
    refine sq ?_
    by_cases hix : 0 ≤ idx l x
    · obtain ⟨i, hi⟩ : ∃ i : Nat, idx l x = (i : Int) := ⟨(idx l x).toNat, by omega⟩
      have hil := idx_lt l x
      have hnk : ndk l x = nat l i := by unfold ndk; rw [if_pos hix, hi, Int.toNat_natCast]
      refine rgz [(10, [])] [1, 8, 10, 11] [] [] (by kernel_rfl) ?_; intro κ ξ hκ hξ
      try simp (config := { decide := true }) only [go_sem, Nat.reduceMul, Nat.reduceAdd, Nat.reduceBEq, cond_false, c0, hfg, hix, if_true, lookD_s, hnk]
      repeat with_reducible refine And.intro (by first | assumption | omega | (simp; done) | (simp; omega) | (intro hg; simp (config := { decide := true }) only [go_sem, hg]; done) | (intro hg; simp (config := { decide := true }) only [go_sem, hg]; omega)) ?_
      intro b10 hb10
      try simp (config := { decide := true }) only [go_sem, Nat.reduceMul, Nat.reduceAdd, Nat.reduceBEq, cond_false, c0, hfg, hix, if_true, lookD_s, hnk, hb10]
      repeat with_reducible refine And.intro (by first | assumption | omega | (simp; done) | (simp; omega) | (intro hg; simp (config := { decide := true }) only [go_sem, hg]; done) | (intro hg; simp (config := { decide := true }) only [go_sem, hg]; omega)) ?_
      refine hκ _ _ ?_; clear hκ hξ ξ κ
      refine sq ?_
      refine sq ?_
      refine rg [1, 8, 10, 27] [] [] (by kernel_rfl) ?_; intro κ ξ hκ hξ
      try simp (config := { decide := true }) only [go_sem, Nat.reduceMul, Nat.reduceAdd, Nat.reduceBEq, cond_false, c0, hfg, hix, if_true, lookD_s, hnk, hb10]
      repeat with_reducible refine And.intro (by first | assumption | omega | (simp; done) | (simp; omega) | (intro hg; simp (config := { decide := true }) only [go_sem, hg]; done) | (intro hg; simp (config := { decide := true }) only [go_sem, hg]; omega)) ?_
      refine hκ _ _ ?_; clear hκ hξ ξ κ
      refine cdf (by rfl) ?_
      refine sk ?_
      refine sq ?_
      refine rgt [6, 7] [] [] [] [0, 1, 3, 4, 5, 2, 6, 7, 8] .fin (by kernel_rfl) (by kernel_rfl) (Pk.cons rfl (Pk.cons rfl (Pk.cons rfl (Pk.cons rfl (Pk.cons rfl (Pk.cons rfl (Pk.cons rfl (Pk.cons rfl (Pk.cons rfl (Pk.nil)))))))))) ?_; intro κ ξ hκ hξ
      try simp (config := { decide := true }) only [go_sem, Nat.reduceMul, Nat.reduceAdd, Nat.reduceBEq, cond_false, c0, hfg, hix, if_true, lookD_s, hnk, hb10]
      repeat with_reducible refine And.intro (by first | assumption | omega | (simp; done) | (simp; omega) | (intro hg; simp (config := { decide := true }) only [go_sem, hg]; done) | (intro hg; simp (config := { decide := true }) only [go_sem, hg]; omega)) ?_
      refine callR ((mtr_w ts u bm).frame _).nodup fun bq hnd => ?_
      have hnd := hnd.2
      simp only [Store.keys, List.cons_append, List.nil_append, List.map_cons, List.map_nil, List.nodup_cons, List.mem_cons, List.not_mem_nil, or_false] at hnd
      have hqm : ¬ bq = bm := hnd.1
      have hmq : ¬ bm = bq := fun e => hqm e.symm
      have hqk : ¬ bq ∈ Store.keys [(bm, Box.map (forE (forL l)))] := by simp [Store.keys, hqm]
      try simp (config := { decide := true }) only [go_sem, Nat.reduceMul, Nat.reduceAdd, Nat.reduceBEq, cond_false, c0, hfg, hix, if_true, lookD_s, hnk, hb10, hqm, hmq, hqk, hk]
      repeat with_reducible refine And.intro (by first | assumption | omega | (simp; done) | (simp; omega) | (intro hg; simp (config := { decide := true }) only [go_sem, hg]; done) | (intro hg; simp (config := { decide := true }) only [go_sem, hg]; omega)) ?_
      refine callR (RCall.perm (mt_w l ts u hT bm bq hmq k i (by omega) (by omega) (by omega)) (List.Perm.swap _ _ _) (fun _ => List.Perm.swap _ _ _)) fun _ _ => ?_
      try simp (config := { decide := true }) only [go_sem, Nat.reduceMul, Nat.reduceAdd, Nat.reduceBEq, cond_false, c0, hfg, hix, if_true, lookD_s, hnk, hb10, hqm, hmq, hqk, hk]
      repeat with_reducible refine And.intro (by first | assumption | omega | (simp; done) | (simp; omega) | (intro hg; simp (config := { decide := true }) only [go_sem, hg]; done) | (intro hg; simp (config := { decide := true }) only [go_sem, hg]; omega)) ?_
      refine SET_fin ?_
      try simp (config := { decide := true }) only [go_sem, Nat.reduceMul, Nat.reduceAdd, Nat.reduceBEq, cond_false, c0, hfg, hix, if_true, lookD_s, hnk, hb10, hqm, hmq, hqk, hk]
      repeat with_reducible refine And.intro (by first | assumption | omega | (simp; done) | (simp; omega) | (intro hg; simp (config := { decide := true }) only [go_sem, hg]; done) | (intro hg; simp (config := { decide := true }) only [go_sem, hg]; omega)) ?_
      refine hκ _ _ ?_; clear hκ hξ ξ κ
      refine rt ?_
      refine retE ?_
      simp (config := { decide := true }) only [go_sem, resD, resV, c0, hfg, hix, if_true, lookD_s, hnk, hb10, hqm, hmq, hqk, hk]
      all_goals simp [hv1, hv2, hi, hk]
    · skip
      refine rgz [(10, [])] [1, 8, 10, 11] [] [] (by kernel_rfl) ?_; intro κ ξ hκ hξ
      try simp (config := { decide := true }) only [go_sem, Nat.reduceMul, Nat.reduceAdd, Nat.reduceBEq, cond_false, c0, hfg, hix, if_false, lookD_n]
      repeat with_reducible refine And.intro (by first | assumption | omega | (simp; done) | (simp; omega) | (intro hg; simp (config := { decide := true }) only [go_sem, hg]; done) | (intro hg; simp (config := { decide := true }) only [go_sem, hg]; omega)) ?_
      intro b10 hb10
      try simp (config := { decide := true }) only [go_sem, Nat.reduceMul, Nat.reduceAdd, Nat.reduceBEq, cond_false, c0, hfg, hix, if_false, lookD_n, hb10]
      repeat with_reducible refine And.intro (by first | assumption | omega | (simp; done) | (simp; omega) | (intro hg; simp (config := { decide := true }) only [go_sem, hg]; done) | (intro hg; simp (config := { decide := true }) only [go_sem, hg]; omega)) ?_
      refine hκ _ _ ?_; clear hκ hξ ξ κ
      refine sq ?_
      refine sq ?_
      refine rg [1, 8, 10, 27] [] [] (by kernel_rfl) ?_; intro κ ξ hκ hξ
      try simp (config := { decide := true }) only [go_sem, Nat.reduceMul, Nat.reduceAdd, Nat.reduceBEq, cond_false, c0, hfg, hix, if_false, lookD_n, hb10]
      repeat with_reducible refine And.intro (by first | assumption | omega | (simp; done) | (simp; omega) | (intro hg; simp (config := { decide := true }) only [go_sem, hg]; done) | (intro hg; simp (config := { decide := true }) only [go_sem, hg]; omega)) ?_
      refine hκ _ _ ?_; clear hκ hξ ξ κ
      refine cdt (by rfl) ?_
      refine sq ?_
      refine rg [6, 7] [] [] (by kernel_rfl) ?_; intro κ ξ hκ hξ
      try simp (config := { decide := true }) only [go_sem, Nat.reduceMul, Nat.reduceAdd, Nat.reduceBEq, cond_false, c0, hfg, hix, if_false, lookD_n, hb10]
      repeat with_reducible refine And.intro (by first | assumption | omega | (simp; done) | (simp; omega) | (intro hg; simp (config := { decide := true }) only [go_sem, hg]; done) | (intro hg; simp (config := { decide := true }) only [go_sem, hg]; omega)) ?_
      refine hκ _ _ ?_; clear hκ hξ ξ κ
      refine rt ?_
      refine retE ?_
      simp (config := { decide := true }) only [go_sem, resD, resV, c0, hfg, hix, if_false, lookD_n, hb10]
      all_goals simp [hv1, hv2, hix]

theorem sall_w (l : List Nd) (ts : List Ts) (t u : Tok) : PCall Try.prog (.func 22) [.sl 5 (l.map nrow) t, .sl 4 (ts.map trow) u] (.tup [if (treB l && selB ts) = true then .sl 1 ((allP l ts l.length).map irow) .no else .sl 0 [] .nil, .int .i64 (if (treB l && selB ts) = true then 0 else 1)]) := by
  refine PCall.le ?_
  refine fn_ Try.func22 (by rfl) (by rfl) (rs := [.tmp 4, .tmp 5]) (by rfl) (by simp [Try.f22]) ?_
  refine sq ?_
  refine rg [0, 1] [] [] (by kernel_rfl) ?_; intro κ ξ hκ hξ
  try simp (config := { decide := true }) only [go_sem, Nat.reduceMul, Nat.reduceAdd, Nat.reduceBEq, cond_false]
  repeat with_reducible refine And.intro (by first | assumption | omega | (simp; done) | (simp; omega) | (intro hg; simp (config := { decide := true }) only [go_sem, hg]; done) | (intro hg; simp (config := { decide := true }) only [go_sem, hg]; omega)) ?_
  refine hκ _ _ ?_; clear hκ hξ ξ κ
  refine sq ?_
  refine rg [0, 1, 6, 7] [] [] (by kernel_rfl) ?_; intro κ ξ hκ hξ
  try simp (config := { decide := true }) only [go_sem, Nat.reduceMul, Nat.reduceAdd, Nat.reduceBEq, cond_false]
  repeat with_reducible refine And.intro (by first | assumption | omega | (simp; done) | (simp; omega) | (intro hg; simp (config := { decide := true }) only [go_sem, hg]; done) | (intro hg; simp (config := { decide := true }) only [go_sem, hg]; omega)) ?_
  refine callR (prep_w l ts t u) fun bm _ => ?_
  try simp (config := { decide := true }) only [go_sem, Nat.reduceMul, Nat.reduceAdd, Nat.reduceBEq, cond_false]
  repeat with_reducible refine And.intro (by first | assumption | omega | (simp; done) | (simp; omega) | (intro hg; simp (config := { decide := true }) only [go_sem, hg]; done) | (intro hg; simp (config := { decide := true }) only [go_sem, hg]; omega)) ?_
  refine hκ _ _ ?_; clear hκ hξ ξ κ
  refine sq ?_
  refine sq ?_
  refine rg [0, 1, 6, 19] [] [] (by kernel_rfl) ?_; intro κ ξ hκ hξ
  try simp (config := { decide := true }) only [go_sem, Nat.reduceMul, Nat.reduceAdd, Nat.reduceBEq, cond_false]
  repeat with_reducible refine And.intro (by first | assumption | omega | (simp; done) | (simp; omega) | (intro hg; simp (config := { decide := true }) only [go_sem, hg]; done) | (intro hg; simp (config := { decide := true }) only [go_sem, hg]; omega)) ?_
  refine hκ _ _ ?_; clear hκ hξ ξ κ
  refine cd (by rfl) (fun c0 => ?_) (fun c0 => ?_)
  · skip
    refine sq ?_
    refine rg [4, 5] [] [] (by kernel_rfl) ?_; intro κ ξ hκ hξ
    try simp (config := { decide := true }) only [go_sem, Nat.reduceMul, Nat.reduceAdd, Nat.reduceBEq, cond_false, c0]
    repeat with_reducible refine And.intro (by first | assumption | omega | (simp; done) | (simp; omega) | (intro hg; simp (config := { decide := true }) only [go_sem, hg]; done) | (intro hg; simp (config := { decide := true }) only [go_sem, hg]; omega)) ?_
    refine hκ _ _ ?_; clear hκ hξ ξ κ
    refine rt ?_
    refine retE ?_
    simp (config := { decide := true }) only [go_sem, resD, resV, c0]
    cases h1 : treB l <;> cases h2 : selB ts <;> simp [h1, h2] at c0 ⊢
  · have hv : treB l = true ∧ selB ts = true := by
      cases h1 : treB l <;> cases h2 : selB ts <;> simp [h1, h2] at c0 ⊢
    obtain ⟨hv1, hv2⟩ := hv
    have hT := treB_true.1 hv1
    obtain ⟨⟨hk1, hk2⟩, -, -⟩ := sel_true.1 hv2
    obtain ⟨k, hk⟩ : ∃ k, ts.length = k + 1 := ⟨ts.length - 1, by omega⟩
    have hl4 := hT.len.2
    have hfg := for_get hT
    refine sk ?_
    refine sq ?_
    refine rg [0, 1, 8] [] [] (by kernel_rfl) ?_; intro κ ξ hκ hξ
    try simp (config := { decide := true }) only [go_sem, Nat.reduceMul, Nat.reduceAdd, Nat.reduceBEq, cond_false, c0, hfg]
    repeat with_reducible refine And.intro (by first | assumption | omega | (simp; done) | (simp; omega) | (intro hg; simp (config := { decide := true }) only [go_sem, hg]; done) | (intro hg; simp (config := { decide := true }) only [go_sem, hg]; omega)) ?_
    refine callR ((mtr_w ts u bm).frame _).nodup fun bq hnd => ?_
    have hnd := hnd.2
    simp only [Store.keys, List.cons_append, List.nil_append, List.map_cons, List.map_nil, List.nodup_cons, List.mem_cons, List.not_mem_nil, or_false] at hnd
    have hqm : ¬ bq = bm := hnd.1
    have hmq : ¬ bm = bq := fun e => hqm e.symm
    try simp (config := { decide := true }) only [go_sem, Nat.reduceMul, Nat.reduceAdd, Nat.reduceBEq, cond_false, c0, hfg, hqm, hmq, hk]
    repeat with_reducible refine And.intro (by first | assumption | omega | (simp; done) | (simp; omega) | (intro hg; simp (config := { decide := true }) only [go_sem, hg]; done) | (intro hg; simp (config := { decide := true }) only [go_sem, hg]; omega)) ?_
    refine hκ _ _ ?_; clear hκ hξ ξ κ
    refine sq ?_
    refine rg [0, 1, 8, 9] [] [] (by kernel_rfl) ?_; intro κ ξ hκ hξ
    try simp (config := { decide := true }) only [go_sem, Nat.reduceMul, Nat.reduceAdd, Nat.reduceBEq, cond_false, c0, hfg, hqm, hmq, hk]
    repeat with_reducible refine And.intro (by first | assumption | omega | (simp; done) | (simp; omega) | (intro hg; simp (config := { decide := true }) only [go_sem, hg]; done) | (intro hg; simp (config := { decide := true }) only [go_sem, hg]; omega)) ?_
    refine hκ _ _ ?_; clear hκ hξ ξ κ
    refine sq ?_
    refine sq ?_
    refine rg [1, 8, 9, 23, 24, 25] [] [] (by kernel_rfl) ?_; intro κ ξ hκ hξ
    try simp (config := { decide := true }) only [go_sem, Nat.reduceMul, Nat.reduceAdd, Nat.reduceBEq, cond_false, c0, hfg, hqm, hmq, hk]
    repeat with_reducible refine And.intro (by first | assumption | omega | (simp; done) | (simp; omega) | (intro hg; simp (config := { decide := true }) only [go_sem, hg]; done) | (intro hg; simp (config := { decide := true }) only [go_sem, hg]; omega)) ?_
    refine hκ _ _ ?_; clear hκ hξ ξ κ
    refine bl ?_
    refine lp (α := Nat × Option (Nat × Nat)) (fun y => mk [(1, .sl 4 (ts.map trow) u), (8, (.fn (.func 84) [] [.el [.sl 4 (ts.map trow) u], .el [.mp bm], .ptr bq 0])), (9, apD 1 ((allP l ts y.1).map irow) y.2), (23, .sl 5 (l.map nrow) t), (24, .int .i64 l.length), (25, .int .i64 y.1)]) (fun y => apS 1 (allP l ts y.1).length y.2 ++ [(bq, .cells [(.fn (.func 84) [] [.el [.sl 4 (ts.map trow) u], .el [.mp bm], .ptr bq 0])]), (bm, .map (forE (forL l)))]) (fun y => y.1 ≤ l.length ∧ apOK ((allP l ts y.1).map irow) y.2 ∧ apFr y.2 [(bq, .cells [(.fn (.func 84) [] [.el [.sl 4 (ts.map trow) u], .el [.mp bm], .ptr bq 0])]), (bm, .map (forE (forL l)))]) (fun y => l.length - y.1) (0, none) ⟨⟨by omega, fun _ => rfl, apFr_none _⟩, EnvLe.of_eq rfl, .refl _⟩ ?_
    rintro ⟨i, o⟩ ⟨hi, ho, hfr⟩
    simp only at hi ho hfr
    have hal := allP_len l ts i
    refine sq ?_
    refine rg [1, 8, 9, 23, 24, 25, 26] [] [] (by kernel_rfl) ?_; intro κ ξ hκ hξ
    try simp (config := { decide := true }) only [go_sem, Nat.reduceMul, Nat.reduceAdd, Nat.reduceBEq, cond_false, c0, hfg, hqm, hmq, hk]
    repeat with_reducible refine And.intro (by first | assumption | omega | (simp; done) | (simp; omega) | (intro hg; simp (config := { decide := true }) only [go_sem, hg]; done) | (intro hg; simp (config := { decide := true }) only [go_sem, hg]; omega)) ?_
    refine hκ _ _ ?_; clear hκ hξ ξ κ
    refine sq ?_
    refine cd (by rfl) (fun c1 => ?_) (fun c1 => ?_)
    · try simp only [go_sem] at c1
      refine sk ?_
      refine sq ?_
      refine bl ?_
      refine sq ?_
      refine rgz [(11, [])] [1, 8, 9, 11, 23, 24, 25] [] [] (by kernel_rfl) ?_; intro κ ξ hκ hξ
      try simp (config := { decide := true }) only [go_sem, Nat.reduceMul, Nat.reduceAdd, Nat.reduceBEq, cond_false, c0, hfg, hqm, hmq, hk, c1]
      repeat with_reducible refine And.intro (by first | assumption | omega | (simp; done) | (simp; omega) | (intro hg; simp (config := { decide := true }) only [go_sem, hg]; done) | (intro hg; simp (config := { decide := true }) only [go_sem, hg]; omega)) ?_
      intro b11 hb11
      try simp (config := { decide := true }) only [go_sem, Nat.reduceMul, Nat.reduceAdd, Nat.reduceBEq, cond_false, c0, hfg, hqm, hmq, hk, c1, hb11]
      repeat with_reducible refine And.intro (by first | assumption | omega | (simp; done) | (simp; omega) | (intro hg; simp (config := { decide := true }) only [go_sem, hg]; done) | (intro hg; simp (config := { decide := true }) only [go_sem, hg]; omega)) ?_
      refine hκ _ _ ?_; clear hκ hξ ξ κ
      refine sq ?_
      refine rg [1, 8, 9, 11, 23, 24, 25, 33] [] [] (by kernel_rfl) ?_; intro κ ξ hκ hξ
      try simp (config := { decide := true }) only [go_sem, Nat.reduceMul, Nat.reduceAdd, Nat.reduceBEq, cond_false, c0, hfg, hqm, hmq, hk, c1, hb11]
      repeat with_reducible refine And.intro (by first | assumption | omega | (simp; done) | (simp; omega) | (intro hg; simp (config := { decide := true }) only [go_sem, hg]; done) | (intro hg; simp (config := { decide := true }) only [go_sem, hg]; omega)) ?_
      refine callR ((RCall.perm (mt_w l ts u hT bm bq hmq k i (by omega) (by omega) (by omega)) (List.Perm.swap _ _ _) (fun _ => List.Perm.swap _ _ _)).frameL (apS 1 (allP l ts i).length o)) fun _ _ => ?_
      try simp (config := { decide := true }) only [go_sem, Nat.reduceMul, Nat.reduceAdd, Nat.reduceBEq, cond_false, c0, hfg, hqm, hmq, hk, c1, hb11]
      repeat with_reducible refine And.intro (by first | assumption | omega | (simp; done) | (simp; omega) | (intro hg; simp (config := { decide := true }) only [go_sem, hg]; done) | (intro hg; simp (config := { decide := true }) only [go_sem, hg]; omega)) ?_
      refine hκ _ _ ?_; clear hκ hξ ξ κ
      refine cd (by rfl) (fun c2 => ?_) (fun c2 => ?_)
      · try simp only [go_sem] at c2
        refine rg [1, 8, 9, 23, 24, 25] [] [] (by kernel_rfl) ?_; intro κ ξ hκ hξ
        try simp (config := { decide := true }) only [go_sem, Nat.reduceMul, Nat.reduceAdd, Nat.reduceBEq, cond_false, c0, hfg, hqm, hmq, hk, c1, hb11, c2]
        repeat with_reducible refine And.intro (by first | assumption | omega | (simp; done) | (simp; omega) | (intro hg; simp (config := { decide := true }) only [go_sem, hg]; done) | (intro hg; simp (config := { decide := true }) only [go_sem, hg]; omega)) ?_
        refine napp_growN (o := o) (rows := (allP l ts i).map irow) (ρ := [(bq, _), (bm, _)]) ho hfr (List.length_map ..) rfl rfl (by simp (config := { decide := true }) only [go_sem, Option.isSome_some]) tf117 tf118 tf36 (by refine ⟨⟨rfl, by decide, by decide⟩, by simp (config := { decide := true }) only [go_sem], by simp, ?_⟩; simp [capB] <;> omega) ?_
        intro b38 c38 hb38
        try simp (config := { decide := true }) only [go_sem, Nat.reduceMul, Nat.reduceAdd, Nat.reduceBEq, cond_false, c0, hfg, hqm, hmq, hk, c1, hb11, c2]
        repeat with_reducible refine And.intro (by first | assumption | omega | (simp; done) | (simp; omega) | (intro hg; simp (config := { decide := true }) only [go_sem, hg]; done) | (intro hg; simp (config := { decide := true }) only [go_sem, hg]; omega)) ?_
        refine hκ _ _ ?_; clear hκ hξ ξ κ
        refine rg [1, 8, 9, 23, 24, 25] [] [] (by kernel_rfl) ?_; intro κ ξ hκ hξ
        try simp (config := { decide := true }) only [go_sem, Nat.reduceMul, Nat.reduceAdd, Nat.reduceBEq, cond_false, c0, hfg, hqm, hmq, hk, c1, hb11, c2]
        repeat with_reducible refine And.intro (by first | assumption | omega | (simp; done) | (simp; omega) | (intro hg; simp (config := { decide := true }) only [go_sem, hg]; done) | (intro hg; simp (config := { decide := true }) only [go_sem, hg]; omega)) ?_
        refine hκ _ _ ?_; clear hκ hξ ξ κ
        refine ⟨(i + 1, some (b38, c38)), ⟨⟨by omega, (show apOK _ (some _) from fun h => by cases h), apFr_some hb38⟩, by simp only; omega⟩, EnvLe.of_eq ?_, ?_⟩
        · rw [w64 (by omega), allP_succ, if_pos (by rw [hk]; simpa using c2), List.map_append]; rfl
        · rw [allP_succ, if_pos (by rw [hk]; simpa using c2), List.length_append]; exact .refl _
      · try simp only [go_sem] at c2
        refine sk ?_
        refine rg [1, 8, 9, 23, 24, 25] [] [] (by kernel_rfl) ?_; intro κ ξ hκ hξ
        try simp (config := { decide := true }) only [go_sem, Nat.reduceMul, Nat.reduceAdd, Nat.reduceBEq, cond_false, c0, hfg, hqm, hmq, hk, c1, hb11, c2]
        repeat with_reducible refine And.intro (by first | assumption | omega | (simp; done) | (simp; omega) | (intro hg; simp (config := { decide := true }) only [go_sem, hg]; done) | (intro hg; simp (config := { decide := true }) only [go_sem, hg]; omega)) ?_
        refine hκ _ _ ?_; clear hκ hξ ξ κ
        have hn : allP l ts (i + 1) = allP l ts i := by rw [allP_succ, if_neg (by rw [hk]; simpa using c2)]
        refine ⟨(i + 1, o), ⟨⟨by omega, by rw [hn]; exact ho, hfr⟩, by simp only; omega⟩, EnvLe.of_eq ?_, ?_⟩
        · rw [w64 (by omega), hn]; rfl
        · rw [hn]; exact .refl _
    · try simp only [go_sem] at c1
      refine ex ?_
      refine sq ?_
      refine rg [4, 5] [] [] (by kernel_rfl) ?_; intro κ ξ hκ hξ
      try simp (config := { decide := true }) only [go_sem, Nat.reduceMul, Nat.reduceAdd, Nat.reduceBEq, cond_false, c0, hfg, hqm, hmq, hk, c1]
      repeat with_reducible refine And.intro (by first | assumption | omega | (simp; done) | (simp; omega) | (intro hg; simp (config := { decide := true }) only [go_sem, hg]; done) | (intro hg; simp (config := { decide := true }) only [go_sem, hg]; omega)) ?_
      refine hκ _ _ ?_; clear hκ hξ ξ κ
      refine rt ?_
      refine retL ?_
      simp (config := { decide := true }) only [go_sem, resD, resV, c0, hfg, hqm, hmq, hk, c1]
      obtain rfl : i = l.length := by omega
      simp only [hv1, hv2, Bool.and_self, if_true]
      exact DLe.tup ⟨apD_le 1 ho, DLe.refl _, trivial⟩

theorem wc_w (n b w : Int) (bw : Nat) : RCall Try.prog (.func 60) [.int .i64 n, .int .i64 b, .ptr bw 0] [(bw, .cells [.int .i64 w])] (fun (_ : Unit) => .tup []) (fun (_ : Unit) => [(bw, .cells [.int .i64 (wc w n b)])]) (fun (_ : Unit) => True) := by
  refine fn_ Try.func60 (by rfl) (by rfl) (rs := []) (by rfl) (by simp [Try.f60]) ?_
  refine sq ?_
  refine rg [1, 2, 6] [] [] (by kernel_rfl) ?_; intro κ ξ hκ hξ
  try simp (config := { decide := true }) only [go_sem, Nat.reduceMul, Nat.reduceAdd, Nat.reduceBEq, cond_false]
  repeat with_reducible refine And.intro (by first | assumption | omega | (simp; done) | (simp; omega) | (intro hg; simp (config := { decide := true }) only [go_sem, hg]; done) | (intro hg; simp (config := { decide := true }) only [go_sem, hg]; omega)) ?_
  refine hκ _ _ ?_; clear hκ hξ ξ κ
  refine cd (by rfl) (fun c0 => ?_) (fun c0 => ?_)
  · try simp only [go_sem] at c0
    refine rg [] [] [] (by kernel_rfl) ?_; intro κ ξ hκ hξ
    try simp (config := { decide := true }) only [go_sem, Nat.reduceMul, Nat.reduceAdd, Nat.reduceBEq, cond_false, c0]
    repeat with_reducible refine And.intro (by first | assumption | omega | (simp; done) | (simp; omega) | (intro hg; simp (config := { decide := true }) only [go_sem, hg]; done) | (intro hg; simp (config := { decide := true }) only [go_sem, hg]; omega)) ?_
    refine hκ _ _ ?_; clear hκ hξ ξ κ
    rw [show wc w n b = IntKind.wrap .i64 (w + b) from if_neg c0]
    refine retRn (()) ?_ ?_ ?_
    · first | exact .refl _ | exact List.nil_sublist _ | exact List.sublist_cons_of_sublist _ (.refl _) | exact ((List.Sublist.refl _).cons _).cons _ | (simp [*]; done) | skip
    · first | trivial | assumption | omega | (simp; done) | skip
    simp (config := { decide := true }) only [go_sem, resD, resV, c0]
    all_goals rfl
  · try simp only [go_sem] at c0
    refine sk ?_
    rw [show wc w n b = w from if_pos c0]
    refine retRn (()) ?_ ?_ ?_
    · first | exact .refl _ | exact List.nil_sublist _ | exact List.sublist_cons_of_sublist _ (.refl _) | exact ((List.Sublist.refl _).cons _).cons _ | (simp [*]; done) | skip
    · first | trivial | assumption | omega | (simp; done) | skip
    simp (config := { decide := true }) only [go_sem, resD, resV, c0]
    all_goals rfl

theorem swt_w (ts : List Ts) (u : Tok) : PCall Try.prog (.func 25) [.sl 4 (ts.map trow) u] (.tup [.int .i64 (if selB ts = true then wtL ts else 0), .int .i64 (if selB ts = true then 0 else 1)]) := by
  refine PCall.le ?_
  refine fn_ Try.func25 (by rfl) (by rfl) (rs := [.tmp 2, .tmp 3]) (by rfl) (by simp [Try.f25]) ?_
  refine sq ?_
  refine rg [0] [] [] (by kernel_rfl) ?_; intro κ ξ hκ hξ
  try simp (config := { decide := true }) only [go_sem, Nat.reduceMul, Nat.reduceAdd, Nat.reduceBEq, cond_false]
  repeat with_reducible refine And.intro (by first | assumption | omega | (simp; done) | (simp; omega) | (intro hg; simp (config := { decide := true }) only [go_sem, hg]; done) | (intro hg; simp (config := { decide := true }) only [go_sem, hg]; omega)) ?_
  refine hκ _ _ ?_; clear hκ hξ ξ κ
  refine sq ?_
  refine sq ?_
  refine rg [0, 10] [] [] (by kernel_rfl) ?_; intro κ ξ hκ hξ
  try simp (config := { decide := true }) only [go_sem, Nat.reduceMul, Nat.reduceAdd, Nat.reduceBEq, cond_false]
  repeat with_reducible refine And.intro (by first | assumption | omega | (simp; done) | (simp; omega) | (intro hg; simp (config := { decide := true }) only [go_sem, hg]; done) | (intro hg; simp (config := { decide := true }) only [go_sem, hg]; omega)) ?_
  refine callF (sel_w _ _) ?_
  try simp (config := { decide := true }) only [go_sem, Nat.reduceMul, Nat.reduceAdd, Nat.reduceBEq, cond_false]
  repeat with_reducible refine And.intro (by first | assumption | omega | (simp; done) | (simp; omega) | (intro hg; simp (config := { decide := true }) only [go_sem, hg]; done) | (intro hg; simp (config := { decide := true }) only [go_sem, hg]; omega)) ?_
  refine hκ _ _ ?_; clear hκ hξ ξ κ
  refine cd (by rfl) (fun c0 => ?_) (fun c0 => ?_)
  · try simp only [go_sem] at c0
    refine sq ?_
    refine rg [2, 3] [] [] (by kernel_rfl) ?_; intro κ ξ hκ hξ
    try simp (config := { decide := true }) only [go_sem, Nat.reduceMul, Nat.reduceAdd, Nat.reduceBEq, cond_false, c0]
    repeat with_reducible refine And.intro (by first | assumption | omega | (simp; done) | (simp; omega) | (intro hg; simp (config := { decide := true }) only [go_sem, hg]; done) | (intro hg; simp (config := { decide := true }) only [go_sem, hg]; omega)) ?_
    refine hκ _ _ ?_; clear hκ hξ ξ κ
    refine rt ?_
    refine retE ?_
    simp (config := { decide := true }) only [go_sem, resD, resV, c0]
    all_goals simp_all
  · try simp only [go_sem] at c0
    refine sk ?_
    refine sq ?_
    refine rg [0, 4] [] [] (by kernel_rfl) ?_; intro κ ξ hκ hξ
    try simp (config := { decide := true }) only [go_sem, Nat.reduceMul, Nat.reduceAdd, Nat.reduceBEq, cond_false, c0]
    repeat with_reducible refine And.intro (by first | assumption | omega | (simp; done) | (simp; omega) | (intro hg; simp (config := { decide := true }) only [go_sem, hg]; done) | (intro hg; simp (config := { decide := true }) only [go_sem, hg]; omega)) ?_
    intro b4 hb4
    try simp (config := { decide := true }) only [go_sem, Nat.reduceMul, Nat.reduceAdd, Nat.reduceBEq, cond_false, c0, hb4]
    repeat with_reducible refine And.intro (by first | assumption | omega | (simp; done) | (simp; omega) | (intro hg; simp (config := { decide := true }) only [go_sem, hg]; done) | (intro hg; simp (config := { decide := true }) only [go_sem, hg]; omega)) ?_
    refine hκ _ _ ?_; clear hκ hξ ξ κ
    refine sq ?_
    refine rg [0, 4, 5] [] [] (by kernel_rfl) ?_; intro κ ξ hκ hξ
    try simp (config := { decide := true }) only [go_sem, Nat.reduceMul, Nat.reduceAdd, Nat.reduceBEq, cond_false, c0, hb4]
    repeat with_reducible refine And.intro (by first | assumption | omega | (simp; done) | (simp; omega) | (intro hg; simp (config := { decide := true }) only [go_sem, hg]; done) | (intro hg; simp (config := { decide := true }) only [go_sem, hg]; omega)) ?_
    refine hκ _ _ ?_; clear hκ hξ ξ κ
    refine sq ?_
    refine sq ?_
    refine rg [4, 5, 12, 13, 14] [] [] (by kernel_rfl) ?_; intro κ ξ hκ hξ
    try simp (config := { decide := true }) only [go_sem, Nat.reduceMul, Nat.reduceAdd, Nat.reduceBEq, cond_false, c0, hb4]
    repeat with_reducible refine And.intro (by first | assumption | omega | (simp; done) | (simp; omega) | (intro hg; simp (config := { decide := true }) only [go_sem, hg]; done) | (intro hg; simp (config := { decide := true }) only [go_sem, hg]; omega)) ?_
    refine hκ _ _ ?_; clear hκ hξ ξ κ
    refine bl ?_
    have hv : selB ts = true := by simpa using c0
    obtain ⟨⟨hk1, hk2⟩, -, -⟩ := sel_true.1 hv
    refine lp (α := Nat) (fun i => mk [(4, .ptr b4 0), (5, .fn (.func 60) [] [.ptr b4 0]), (12, .sl 4 (ts.map trow) u), (13, .int .i64 ts.length), (14, .int .i64 i)]) (fun i => [(b4, .cells [.int .i64 (wtL (ts.take i))])]) (fun i => i ≤ ts.length) (fun i => ts.length - i) 0 ⟨by omega, EnvLe.of_eq rfl, .refl _⟩ ?_
    intro i hi
    have hwr := wtL_range (ts.take i)
    rw [List.length_take] at hwr
    refine sq ?_
    refine rg [4, 5, 12, 13, 14, 15] [] [] (by kernel_rfl) ?_; intro κ ξ hκ hξ
    try simp (config := { decide := true }) only [go_sem, Nat.reduceMul, Nat.reduceAdd, Nat.reduceBEq, cond_false, c0, hb4]
    repeat with_reducible refine And.intro (by first | assumption | omega | (simp; done) | (simp; omega) | (intro hg; simp (config := { decide := true }) only [go_sem, hg]; done) | (intro hg; simp (config := { decide := true }) only [go_sem, hg]; omega)) ?_
    refine hκ _ _ ?_; clear hκ hξ ξ κ
    refine sq ?_
    refine cd (by rfl) (fun c1 => ?_) (fun c1 => ?_)
    · try simp only [go_sem] at c1
      refine sk ?_
      refine sq ?_
      refine bl ?_
      refine sq ?_
      refine rgz [(7, [])] [4, 5, 7, 12, 13, 14] [] [] (by kernel_rfl) ?_; intro κ ξ hκ hξ
      try simp (config := { decide := true }) only [go_sem, Nat.reduceMul, Nat.reduceAdd, Nat.reduceBEq, cond_false, c0, hb4, c1]
      repeat with_reducible refine And.intro (by first | assumption | omega | (simp; done) | (simp; omega) | (intro hg; simp (config := { decide := true }) only [go_sem, hg]; done) | (intro hg; simp (config := { decide := true }) only [go_sem, hg]; omega)) ?_
      intro b7 hb7
      try simp (config := { decide := true }) only [go_sem, Nat.reduceMul, Nat.reduceAdd, Nat.reduceBEq, cond_false, c0, hb4, c1, hb7]
      repeat with_reducible refine And.intro (by first | assumption | omega | (simp; done) | (simp; omega) | (intro hg; simp (config := { decide := true }) only [go_sem, hg]; done) | (intro hg; simp (config := { decide := true }) only [go_sem, hg]; omega)) ?_
      refine hκ _ _ ?_; clear hκ hξ ξ κ
      refine sq ?_
      refine rg [4, 5, 7, 12, 13, 14] [] [] (by kernel_rfl) ?_; intro κ ξ hκ hξ
      try simp (config := { decide := true }) only [go_sem, Nat.reduceMul, Nat.reduceAdd, Nat.reduceBEq, cond_false, c0, hb4, c1, hb7]
      repeat with_reducible refine And.intro (by first | assumption | omega | (simp; done) | (simp; omega) | (intro hg; simp (config := { decide := true }) only [go_sem, hg]; done) | (intro hg; simp (config := { decide := true }) only [go_sem, hg]; omega)) ?_
      refine callR (wc_w _ _ _ _) fun _ _ => ?_
      try simp (config := { decide := true }) only [go_sem, Nat.reduceMul, Nat.reduceAdd, Nat.reduceBEq, cond_false, c0, hb4, c1, hb7]
      repeat with_reducible refine And.intro (by first | assumption | omega | (simp; done) | (simp; omega) | (intro hg; simp (config := { decide := true }) only [go_sem, hg]; done) | (intro hg; simp (config := { decide := true }) only [go_sem, hg]; omega)) ?_
      refine hκ _ _ ?_; clear hκ hξ ξ κ
      refine sq ?_
      refine rg [4, 5, 7, 12, 13, 14] [] [] (by kernel_rfl) ?_; intro κ ξ hκ hξ
      try simp (config := { decide := true }) only [go_sem, Nat.reduceMul, Nat.reduceAdd, Nat.reduceBEq, cond_false, c0, hb4, c1, hb7]
      repeat with_reducible refine And.intro (by first | assumption | omega | (simp; done) | (simp; omega) | (intro hg; simp (config := { decide := true }) only [go_sem, hg]; done) | (intro hg; simp (config := { decide := true }) only [go_sem, hg]; omega)) ?_
      refine callR (wc_w _ _ _ _) fun _ _ => ?_
      try simp (config := { decide := true }) only [go_sem, Nat.reduceMul, Nat.reduceAdd, Nat.reduceBEq, cond_false, c0, hb4, c1, hb7]
      repeat with_reducible refine And.intro (by first | assumption | omega | (simp; done) | (simp; omega) | (intro hg; simp (config := { decide := true }) only [go_sem, hg]; done) | (intro hg; simp (config := { decide := true }) only [go_sem, hg]; omega)) ?_
      refine hκ _ _ ?_; clear hκ hξ ξ κ
      refine rg [4, 5, 12, 13, 14] [] [] (by kernel_rfl) ?_; intro κ ξ hκ hξ
      try simp (config := { decide := true }) only [go_sem, Nat.reduceMul, Nat.reduceAdd, Nat.reduceBEq, cond_false, c0, hb4, c1, hb7]
      repeat with_reducible refine And.intro (by first | assumption | omega | (simp; done) | (simp; omega) | (intro hg; simp (config := { decide := true }) only [go_sem, hg]; done) | (intro hg; simp (config := { decide := true }) only [go_sem, hg]; omega)) ?_
      refine callR (wc_w _ _ _ _) fun _ _ => ?_
      try simp (config := { decide := true }) only [go_sem, Nat.reduceMul, Nat.reduceAdd, Nat.reduceBEq, cond_false, c0, hb4, c1, hb7]
      repeat with_reducible refine And.intro (by first | assumption | omega | (simp; done) | (simp; omega) | (intro hg; simp (config := { decide := true }) only [go_sem, hg]; done) | (intro hg; simp (config := { decide := true }) only [go_sem, hg]; omega)) ?_
      refine hκ _ _ ?_; clear hκ hξ ξ κ
      refine rg [4, 5, 12, 13, 14] [] [] (by kernel_rfl) ?_; intro κ ξ hκ hξ
      try simp (config := { decide := true }) only [go_sem, Nat.reduceMul, Nat.reduceAdd, Nat.reduceBEq, cond_false, c0, hb4, c1, hb7]
      repeat with_reducible refine And.intro (by first | assumption | omega | (simp; done) | (simp; omega) | (intro hg; simp (config := { decide := true }) only [go_sem, hg]; done) | (intro hg; simp (config := { decide := true }) only [go_sem, hg]; omega)) ?_
      refine hκ _ _ ?_; clear hκ hξ ξ κ
      refine ⟨i + 1, ⟨by omega, by omega⟩, EnvLe.of_eq (by rw [w64 (by omega)]; rfl), ?_⟩
      rw [wtL_take (by omega), ← wc_sum (tat ts i) (by omega)]; exact .refl _
    · try simp only [go_sem] at c1
      refine ex ?_
      refine sq ?_
      refine rg [2, 3] [] [] (by kernel_rfl) ?_; intro κ ξ hκ hξ
      try simp (config := { decide := true }) only [go_sem, Nat.reduceMul, Nat.reduceAdd, Nat.reduceBEq, cond_false, c0, hb4, c1]
      repeat with_reducible refine And.intro (by first | assumption | omega | (simp; done) | (simp; omega) | (intro hg; simp (config := { decide := true }) only [go_sem, hg]; done) | (intro hg; simp (config := { decide := true }) only [go_sem, hg]; omega)) ?_
      refine hκ _ _ ?_; clear hκ hξ ξ κ
      refine rt ?_
      refine retE ?_
      simp (config := { decide := true }) only [go_sem, resD, resV, c0, hb4, c1]
      obtain rfl : i = ts.length := by omega
      rw [List.take_length]
      all_goals simp [hv]

end Go.Proofs.Ytgccnkihonmlbaa

/- The walk of the law of looser selectors. Printed by a tool of our own. -/
import Derived.Test.YtgccnkihonmlbaaSq
namespace Go.Proofs.Ytgccnkihonmlbaa
open Go Go.RowKit
set_option linter.unusedSimpArgs false
set_option linter.unusedVariables false
set_option maxHeartbeats 4000000
set_option maxRecDepth 100000
def lK (t : Ts) : Ts := ⟨0, t.cls, t.id, t.child⟩
def lC (t : Ts) : Ts := ⟨t.kind, 0, t.id, t.child⟩
def lI (t : Ts) : Ts := ⟨t.kind, t.cls, 0, t.child⟩
theorem mtB_mono {l : List Nd} {ts rs : List Ts} (h1 : ∀ j n, fuB n (tat ts j) = true → fuB n (tat rs j) = true) (h2 : ∀ j, (tat rs j).child = true → (tat ts j).child = true) : ∀ (m i : Nat), mtB l ts m i = true → mtB l rs m i = true
  | 0, _, h => h
  | m + 1, i, h => by
    simp only [mtB, Bool.and_eq_true, Bool.or_eq_true, decide_eq_true_eq] at h ⊢
    exact ⟨h1 _ _ h.1, h.2.imp id fun h => any_mono (f := mtB l ts m) (g := mtB l rs m) (h2 m) (fun x hx => mtB_mono h1 h2 m x hx) h⟩
theorem wtL_set {t : Ts} : ∀ {ts : List Ts} {k : Nat}, k < ts.length → wtL (ts.set k t) = wtL ts - wt1 (tat ts k) + wt1 t
  | [], _, h => by simp at h
  | a :: ts, 0, _ => by simp only [List.set_cons_zero, wtL, List.map_cons, List.sum_cons, tat, List.getD_cons_zero]; omega
  | a :: ts, k + 1, h => by
    have ih := wtL_set (t := t) (ts := ts) (k := k) (by simpa using h)
    have e : tat (a :: ts) (k + 1) = tat ts k := by simp [tat]
    rw [e]
    simp only [List.set_cons_succ, wtL, List.map_cons, List.sum_cons] at ih ⊢
    omega
theorem loose_w {l : List Nd} {ts : List Ts} {k : Nat} (hv : selB ts = true) (hk : k < ts.length) (T : Ts) (h1 : ∀ n, fuB n (tat ts k) = true → fuB n T = true) (h2 : T.child = true → (tat ts k).child = true) (h3 : tsB (tat ts k) = true → tsB T = true) (h4 : wt1 T ≤ wt1 (tat ts k)) :
    selB (ts.set k T) = true ∧ (∀ n, ∀ x ∈ allP l ts n, x ∈ allP l (ts.set k T) n) ∧ 0 ≤ wtL (ts.set k T) ∧ wtL (ts.set k T) ≤ wtL ts := by
  obtain ⟨hl, hc, hj⟩ := sel_true.1 hv
  refine ⟨sel_of (by rw [List.length_set]; exact hl) ?_ fun j h => ?_, allP_sub fun i h => ?_, (wtL_range _).1, by rw [wtL_set hk]; omega⟩
  · rw [tat_set hk]
    split
    · rename_i e
      cases hT : T.child with
      | false => rfl
      | true => rw [e] at hc; rw [← hc]; exact (h2 hT).symm
    · exact hc
  · rw [tat_set hk]
    split
    · exact h3 (hj k hk)
    · exact hj j (by rwa [List.length_set] at h)
  · rw [List.length_set]
    refine mtB_mono (fun j n h => ?_) (fun j h => ?_) _ i h
    · rw [tat_set hk]
      split
      · rename_i e; subst e; exact h1 n h
      · exact h
    · rw [tat_set hk] at h
      split at h
      · rename_i e; subst e; exact h2 h
      · exact h
theorem row_at {ts : List Ts} {k : Nat} (hk : k < ts.length) : (ts.map trow).getD k [] = trow (tat ts k) := by
  simp [tat, List.getD_eq_getElem?_getD, hk]
theorem set_K {ts : List Ts} {k : Nat} (hk : k < ts.length) : (ts.map trow).set k (D.int .i64 0 :: List.drop 1 ((ts.map trow).getD k [])) = (ts.set k (lK (tat ts k))).map trow := by rw [row_at hk, List.map_set]; rfl
theorem set_C {ts : List Ts} {k : Nat} (hk : k < ts.length) : (ts.map trow).set k (List.take 1 ((ts.map trow).getD k []) ++ [.int .i64 0] ++ List.drop 2 ((ts.map trow).getD k [])) = (ts.set k (lC (tat ts k))).map trow := by rw [row_at hk, List.map_set]; rfl
theorem set_I {ts : List Ts} {k : Nat} (hk : k < ts.length) : (ts.map trow).set k (List.take 2 ((ts.map trow).getD k []) ++ [.int .i64 0] ++ List.drop 3 ((ts.map trow).getD k [])) = (ts.set k (lI (tat ts k))).map trow := by rw [row_at hk, List.map_set]; rfl
theorem set_N {ts : List Ts} {k : Nat} (hk : k < ts.length) : (ts.map trow).set k (List.take 3 ((ts.map trow).getD k []) ++ [.bool false] ++ List.drop 4 ((ts.map trow).getD k [])) = (ts.set k (noC (tat ts k))).map trow := by rw [row_at hk, List.map_set]; rfl
theorem fu_all (n : Nd) (t : Ts) : (fuB n t = true → fuB n (lK t) = true) ∧ (fuB n t = true → fuB n (lC t) = true) ∧ (fuB n t = true → fuB n (lI t) = true) ∧ (fuB n t = true → fuB n (noC t) = true) := by
  unfold fuB lK lC lI noC
  simp only [decide_eq_true_eq]
  exact ⟨fun h => ⟨.inl trivial, h.2⟩, fun h => ⟨h.1, .inl trivial, h.2.2⟩, fun h => ⟨h.1, h.2.1, .inl trivial⟩, fun h => h⟩
theorem ts_all (t : Ts) : (tsB t = true → tsB (lK t) = true) ∧ (tsB t = true → tsB (lC t) = true) ∧ (tsB t = true → tsB (lI t) = true) ∧ (tsB t = true → tsB (noC t) = true) := by
  unfold tsB lK lC lI noC
  simp only [decide_eq_true_eq]
  refine ⟨fun h => ?_, fun h => ?_, fun h => ?_, fun h => h⟩ <;> omega
theorem wt_all (t : Ts) : wt1 (lK t) ≤ wt1 t ∧ wt1 (lC t) ≤ wt1 t ∧ wt1 (lI t) ≤ wt1 t ∧ wt1 (noC t) ≤ wt1 t := by
  unfold wt1 lK lC lI noC
  simp only [ne_eq, not_true_eq_false, if_false]
  refine ⟨?_, ?_, ?_, Int.le_refl _⟩ <;> (repeat' split) <;> omega
attribute [local go_sem ↓] vo_nil vK_eq vo_q vo_g vo_n vo_c vd_nil dK_eq eK_eq vd_q vd_g vd_n vd_st vd_c cgs_call cgs_builtin
attribute [local go_sem] Ext_refl Ext_cons
attribute [local go_sem] quiet_move quiet_assign quiet_pick quiet_binOp quiet_unOp quiet_convert quiet_field quiet_fieldAddr quiet_indexAddr quiet_index quiet_load quiet_lookup quiet_extract quiet_build quiet_makeInterface quiet_makeFunc quiet_slice quiet_nilCheck quiet_alloc isCall_alloc quiet_box isCall_box quiet_buildSlice isCall_buildSlice quiet_store isCall_store quiet_range isCall_range quiet_next isCall_next quiet_makeSlice isCall_makeSlice quiet_panic isCall_panic quiet_len quiet_cap quiet_min quiet_max quiet_append isCall_append quiet_copy isCall_copy quiet_delete isCall_delete nqk_alloc nqk_box nqk_buildSlice nqk_range nqk_next nqk_makeSlice nqk_panic nqk_makeMap nqk_entry nqk_append nqk_copy nqk_delete isSt_alloc isSt_box isSt_buildSlice isSt_range isSt_next isSt_makeSlice isSt_panic isSt_makeMap isSt_entry isSt_store isSt_mapUpdate isSt_insert isSt_append isSt_copy isSt_delete quiet_makeMap isCall_makeMap quiet_mapUpdate isCall_mapUpdate quiet_insert isCall_insert
attribute [local go_sem] argEnv qev opd put_some put_none set_at mk_cons mk_nil prune_eq D.ofV ofC_int ofC_nil ofC_str ofC_nilmap ofC_nilfunc ofC_nilptr true_and ofC_bool bop isSh ibop Bool.false_eq_true if_false if_true and_self D.core D.cg qpick isB bof gval look Option.bind_some opc cgs Op.operands List.all_cons List.all_nil Bool.and_true and_true true_imp_iff imp_self false_imp_iff beq_true beq_false beq_iff_eq decide_eq_true_eq List.map_cons List.map_nil Bool.not_eq_true' decide_eq_false_iff_not gof gq gev cond_some Option.isSome_some Bool.or_eq_true Bool.and_eq_true Bool.or_eq_false_iff Bool.and_eq_false_iff Bool.not_eq_true Bool.not_eq_false Bool.not_eq_false' ne_eq implies_true forall_const Bool.cond_true_left Bool.cond_false_right not_false_eq_true not_true_eq_false Int.toNat_natCast Int.toNat_zero
attribute [local go_sem] qbuiltin qlook ments foldI mget mput keqD keyOK lookD_s lookD_n lookD_fs lookD_fn nput agop deqF deq1 nappZ cond_true cond_false Option.getD_some Option.getD_none Option.isSome_none ite_self qindex qslice qconv qextract qfield qfaddr qiaddr qload quop qiface qbuild qnil ldC ldD ob List.drop_succ_cons take_mapr drop_mapr List.drop_zero List.take_succ_cons List.take_zero List.length_cons List.length_nil List.getElem?_cons_zero List.getElem?_cons_succ Option.map_some Option.map_none List.head?_cons
attribute [local go_sem] nev isImm List.contains_cons List.contains_nil Bool.or_false Bool.or_true D.flat D.cellsOf D.isCell Bool.or_self Bool.and_self szOf nstore Store.get Store.upd putCells nk_cons not_or FZ frzE_mk frzL inL frz Store.del or_false boxCells List.headD_cons List.headD_nil List.nil_append List.append_nil List.cons_append List.drop_nil false_and and_false false_or true_or or_true Bool.false_and Bool.true_and Bool.false_or Bool.true_or Bool.and_false setPs lim_eq chunk zrep pls_eq plsF fillD resAll shop sbop bbop decide_true decide_false Bool.not_true Bool.not_false eq_self
attribute [local go_sem] tf0 tf1 tf2 tf3 tf4 tf5 tf6 tf7 tf8 tf9 tf10 tf11 tf12 tf13 tf14 tf15 tf16 tf17 tf18 tf19 tf20 tf21 tf22 tf23 tf24 tf25 tf26 tf27 tf28 tf29 tf30 tf31 tf32 tf33 tf34 tf35 tf36 tf37 tf38 tf39 tf40 tf41 tf42 tf43 tf44 tf45 tf46 tf47 tf48 tf49 tf50 tf51 tf52 tf53 tf54 tf55 tf56 tf57 tf58 tf59 tf60 tf61 tf62 tf63 tf64 tf65 tf66 tf67 tf68 tf69 tf70 tf71 tf72 tf73 tf74 tf75 tf76 tf77 tf78 tf79 tf80 tf81 tf82 tf83 tf84 tf85 tf86 tf87 tf88 tf89 tf90 tf91 tf92 tf93 tf94 tf95 tf96 tf97 tf98 tf99 tf100 tf101 tf102 tf103 tf104 tf105 tf106 tf107 tf108 tf109 tf110 tf111 tf112 tf113 tf114 tf115 tf116 tf117 tf118 tf119 tf120 tf121 tf122 tf123 tf124 tf125 tf126 tf127 tf128 tf129 tf130 tf131 tf132 tf133 tf134 tf135 tf136 tf137 tf138 tf139 tf140 tf141 tf142 tf143 tf144 tf145 tf146 tf147 tf148 tf149 tf150 tf151 tf152 tf153 tf154 tf155 tf156 tf157 tf158 tf159 tf160 tf161 tf162 tf163 tf164 tf165 tf166 tf167 tf168 tf169 tf170 tf171 tf172 tf173 tf174 tf175 tf176 tf177 tf178 tf179 tf180 tf181 tf182 tf183 tf184 tf185 tf186 tf187 tf188 tf189 tf190 tf191 tf192 tf193 tf194 tf195 tf196 tf197 tf198 tf199 tf200 tf201 tf202 tf203 tf204 tf205 tf206 tf207 tf208 tf209 tf210 tf211 tf212 tf213 tf214 tf215 tf216 tf217 tf218 tf219 tf220 tf221 tf222 tf223 tf224 tf225 tf226 tf227 tf228 tf229 tf230 tf231 tf232 tf233 tf234 tf235 tf236 tf237 tf238 tf239 tf240 tf241 tf242 tf243 tf244 tf245 tf246 tf247 tf248 tf249 tf250 tf251 tf252
attribute [local go_sem] List.length_map rowAt_n nrow rowAt_t trow rowAt_i irow
attribute [local go_sem] for_put for_put' for_look for_look'
theorem law5_w (l : List Nd) (ts : List Ts) (which what : Int) : PCall Try.prog (.func 5) [.sl 5 (l.map nrow) .no, .sl 4 (ts.map trow) .no, .int .u8 which, .int .u8 what] (.bool true) := by
  refine PCall.ok fun hok => ?_
  simp only [okAll, D.ok, okRows, and_true, true_and, lim_eq, inR_i64', inR_i32', inR_u8', inR_u16', inR_u64'] at hok
  obtain ⟨-, -, hwh, hwt⟩ := hok
  refine PCall.le ?_
  refine fn_ Try.func5 (by rfl) (by rfl) (rs := [.tmp 8]) (by rfl) (by simp [Try.f5]) ?_
  refine sq ?_
  refine rg [0, 1, 2, 3] [] [] (by kernel_rfl) ?_; intro κ ξ hκ hξ
  try simp (config := { decide := true }) only [go_sem, Nat.reduceMul, Nat.reduceAdd, Nat.reduceBEq, cond_false]
  repeat with_reducible refine And.intro (by first | assumption | omega | (simp; done) | (simp; omega) | (intro hg; simp (config := { decide := true }) only [go_sem, hg]; done) | (intro hg; simp (config := { decide := true }) only [go_sem, hg]; omega)) ?_
  refine hκ _ _ ?_; clear hκ hξ ξ κ
  refine sq ?_
  refine rg [0, 1, 2, 3, 9] [] [] (by kernel_rfl) ?_; intro κ ξ hκ hξ
  try simp (config := { decide := true }) only [go_sem, Nat.reduceMul, Nat.reduceAdd, Nat.reduceBEq, cond_false]
  repeat with_reducible refine And.intro (by first | assumption | omega | (simp; done) | (simp; omega) | (intro hg; simp (config := { decide := true }) only [go_sem, hg]; done) | (intro hg; simp (config := { decide := true }) only [go_sem, hg]; omega)) ?_
  refine callF (head_w) ?_
  try simp (config := { decide := true }) only [go_sem, Nat.reduceMul, Nat.reduceAdd, Nat.reduceBEq, cond_false]
  repeat with_reducible refine And.intro (by first | assumption | omega | (simp; done) | (simp; omega) | (intro hg; simp (config := { decide := true }) only [go_sem, hg]; done) | (intro hg; simp (config := { decide := true }) only [go_sem, hg]; omega)) ?_
  refine hκ _ _ ?_; clear hκ hξ ξ κ
  refine sq ?_
  refine sq ?_
  refine rg [0, 1, 2, 3, 9, 24] [] [] (by kernel_rfl) ?_; intro κ ξ hκ hξ
  try simp (config := { decide := true }) only [go_sem, Nat.reduceMul, Nat.reduceAdd, Nat.reduceBEq, cond_false]
  repeat with_reducible refine And.intro (by first | assumption | omega | (simp; done) | (simp; omega) | (intro hg; simp (config := { decide := true }) only [go_sem, hg]; done) | (intro hg; simp (config := { decide := true }) only [go_sem, hg]; omega)) ?_
  refine callF (usable_w _ _ _ _) ?_
  try simp (config := { decide := true }) only [go_sem, Nat.reduceMul, Nat.reduceAdd, Nat.reduceBEq, cond_false]
  repeat with_reducible refine And.intro (by first | assumption | omega | (simp; done) | (simp; omega) | (intro hg; simp (config := { decide := true }) only [go_sem, hg]; done) | (intro hg; simp (config := { decide := true }) only [go_sem, hg]; omega)) ?_
  refine hκ _ _ ?_; clear hκ hξ ξ κ
  refine cd (by rfl) (fun c0 => ?_) (fun c0 => ?_)
  · skip
    refine sq ?_
    refine rg [8] [] [] (by kernel_rfl) ?_; intro κ ξ hκ hξ
    try simp (config := { decide := true }) only [go_sem, Nat.reduceMul, Nat.reduceAdd, Nat.reduceBEq, cond_false, c0]
    repeat with_reducible refine And.intro (by first | assumption | omega | (simp; done) | (simp; omega) | (intro hg; simp (config := { decide := true }) only [go_sem, hg]; done) | (intro hg; simp (config := { decide := true }) only [go_sem, hg]; omega)) ?_
    refine hκ _ _ ?_; clear hκ hξ ξ κ
    refine rt ?_
    refine retE ?_
    simp (config := { decide := true }) only [go_sem, resD, resV, c0]
    all_goals simp
  · obtain ⟨hv1, hv2, hl40, ht20⟩ := usable_true (l := l) (ts := ts) (by revert c0; cases (decide (l.length ≤ 40 ∧ ts.length ≤ 20) && treB l && selB ts) <;> simp)
    have hT := treB_true.1 hv1
    obtain ⟨⟨ht1, ht8⟩, -, -⟩ := sel_true.1 hv2
    obtain ⟨k, hk, hkl⟩ : ∃ k : Nat, (IntKind.wrap .i64 which).tmod (ts.length : Int) = k ∧ k < ts.length := by
      rw [w64 (n := which) (by omega), Int.tmod_eq_emod_of_nonneg hwh.1]
      have h1 := Int.emod_nonneg which (b := (ts.length : Int)) (by omega)
      have h2 := Int.emod_lt_of_pos which (b := (ts.length : Int)) (by omega)
      exact ⟨(which % (ts.length : Int)).toNat, by omega, by omega⟩
    have hkl2 : (k : Int) ≤ (ts.length : Int) := by omega
    have hkl3 : (k : Int) < (ts.length : Int) := by omega
    have hl0 : (ts.length : Int) ≠ 0 := by omega
    obtain ⟨hrw0, hrs0, hrn0, hrx0⟩ := loose_w (l := l) hv2 hkl (lK (tat ts k)) (fun n => (fu_all n (tat ts k)).1) id (ts_all (tat ts k)).1 (wt_all (tat ts k)).1
    have hst0 := set_K hkl
    obtain ⟨hrw1, hrs1, hrn1, hrx1⟩ := loose_w (l := l) hv2 hkl (lC (tat ts k)) (fun n => (fu_all n (tat ts k)).2.1) id (ts_all (tat ts k)).2.1 (wt_all (tat ts k)).2.1
    have hst1 := set_C hkl
    obtain ⟨hrw2, hrs2, hrn2, hrx2⟩ := loose_w (l := l) hv2 hkl (lI (tat ts k)) (fun n => (fu_all n (tat ts k)).2.2.1) id (ts_all (tat ts k)).2.2.1 (wt_all (tat ts k)).2.2.1
    have hst2 := set_I hkl
    obtain ⟨hrw3, hrs3, hrn3, hrx3⟩ := loose_w (l := l) hv2 hkl (noC (tat ts k)) (fun n => (fu_all n (tat ts k)).2.2.2) (fun h => by cases h) (ts_all (tat ts k)).2.2.2 (wt_all (tat ts k)).2.2.2
    have hst3 := set_N hkl
    obtain ⟨q, hq, hq0, hq3⟩ : ∃ q : Int, what.tmod 4 = q ∧ 0 ≤ q ∧ q ≤ 3 := by
      rw [Int.tmod_eq_emod_of_nonneg hwt.1]
      exact ⟨_, rfl, by omega, by omega⟩
    have hd0 : (k * 4) / 4 = k := by omega
    have hm0 : (k * 4) % 4 = 0 := by omega
    have hd1 : (k * 4 + 1) / 4 = k := by omega
    have hm1 : (k * 4 + 1) % 4 = 1 := by omega
    have hd2 : (k * 4 + 2) / 4 = k := by omega
    have hm2 : (k * 4 + 2) % 4 = 2 := by omega
    have hd3 : (k * 4 + 3) / 4 = k := by omega
    have hm3 : (k * 4 + 3) % 4 = 3 := by omega
    have hnd : ts.map trow ≠ [] := by intro e; have := congrArg List.length e; rw [List.length_map, List.length_nil] at this; omega
    have hml : (ts.map trow).length = ts.length := List.length_map ..
    refine sk ?_
    refine sq ?_
    refine rg [0, 1, 2, 3, 9, 10] [28] [] (by kernel_rfl) ?_; intro κ ξ hκ hξ
    try simp (config := { decide := true }) only [go_sem, Nat.reduceMul, Nat.reduceAdd, Nat.reduceBEq, cond_false, c0, hv1, hv2, Bool.and_self, Bool.true_and, if_true, hk, hkl2, hkl3, hkl, hl0, hq, Nat.add_zero, hd0, hm0, hd1, hm1, hd2, hm2, hd3, hm3, hst0, hst1, hst2, hst3, hml, hrw0, hrw1, hrw2, hrw3]
    repeat with_reducible refine And.intro (by first | assumption | omega | (simp; done) | (simp; omega) | (intro hg; simp (config := { decide := true }) only [go_sem, hg]; done) | (intro hg; simp (config := { decide := true }) only [go_sem, hg]; omega)) ?_
    refine .inl (nappM_of rfl rfl (by simp (config := { decide := true }) only [go_sem, Option.isSome_some]) tf96 tf97 tf149 (by refine ⟨⟨rfl, by decide, by decide⟩, trow_all _, hnd, ?_⟩; simp [capB] <;> omega) ?_); rw [List.length_map]; intro b28 c28 hb28 hc28
    try simp (config := { decide := true }) only [go_sem, Nat.reduceMul, Nat.reduceAdd, Nat.reduceBEq, cond_false, c0, hv1, hv2, Bool.and_self, Bool.true_and, if_true, hk, hkl2, hkl3, hkl, hl0, hq, Nat.add_zero, hd0, hm0, hd1, hm1, hd2, hm2, hd3, hm3, hst0, hst1, hst2, hst3, hml, hrw0, hrw1, hrw2, hrw3, hb28]
    repeat with_reducible refine And.intro (by first | assumption | omega | (simp; done) | (simp; omega) | (intro hg; simp (config := { decide := true }) only [go_sem, hg]; done) | (intro hg; simp (config := { decide := true }) only [go_sem, hg]; omega)) ?_
    refine hκ _ _ ?_; clear hκ hξ ξ κ
    refine sq ?_
    refine rg [0, 1, 3, 9, 10, 11] [] [] (by kernel_rfl) ?_; intro κ ξ hκ hξ
    try simp (config := { decide := true }) only [go_sem, Nat.reduceMul, Nat.reduceAdd, Nat.reduceBEq, cond_false, c0, hv1, hv2, Bool.and_self, Bool.true_and, if_true, hk, hkl2, hkl3, hkl, hl0, hq, Nat.add_zero, hd0, hm0, hd1, hm1, hd2, hm2, hd3, hm3, hst0, hst1, hst2, hst3, hml, hrw0, hrw1, hrw2, hrw3, hb28]
    repeat with_reducible refine And.intro (by first | assumption | omega | (simp; done) | (simp; omega) | (intro hg; simp (config := { decide := true }) only [go_sem, hg]; done) | (intro hg; simp (config := { decide := true }) only [go_sem, hg]; omega)) ?_
    refine hκ _ _ ?_; clear hκ hξ ξ κ
    refine sq ?_
    refine sq ?_
    refine rg [0, 1, 9, 10, 11, 35] [] [] (by kernel_rfl) ?_; intro κ ξ hκ hξ
    try simp (config := { decide := true }) only [go_sem, Nat.reduceMul, Nat.reduceAdd, Nat.reduceBEq, cond_false, c0, hv1, hv2, Bool.and_self, Bool.true_and, if_true, hk, hkl2, hkl3, hkl, hl0, hq, Nat.add_zero, hd0, hm0, hd1, hm1, hd2, hm2, hd3, hm3, hst0, hst1, hst2, hst3, hml, hrw0, hrw1, hrw2, hrw3, hb28]
    repeat with_reducible refine And.intro (by first | assumption | omega | (simp; done) | (simp; omega) | (intro hg; simp (config := { decide := true }) only [go_sem, hg]; done) | (intro hg; simp (config := { decide := true }) only [go_sem, hg]; omega)) ?_
    refine hκ _ _ ?_; clear hκ hξ ξ κ
    refine bl ?_
    refine sq ?_
    refine rg [0, 1, 9, 10, 11, 35, 36] [] [] (by kernel_rfl) ?_; intro κ ξ hκ hξ
    try simp (config := { decide := true }) only [go_sem, Nat.reduceMul, Nat.reduceAdd, Nat.reduceBEq, cond_false, c0, hv1, hv2, Bool.and_self, Bool.true_and, if_true, hk, hkl2, hkl3, hkl, hl0, hq, Nat.add_zero, hd0, hm0, hd1, hm1, hd2, hm2, hd3, hm3, hst0, hst1, hst2, hst3, hml, hrw0, hrw1, hrw2, hrw3, hb28]
    repeat with_reducible refine And.intro (by first | assumption | omega | (simp; done) | (simp; omega) | (intro hg; simp (config := { decide := true }) only [go_sem, hg]; done) | (intro hg; simp (config := { decide := true }) only [go_sem, hg]; omega)) ?_
    refine hκ _ _ ?_; clear hκ hξ ξ κ
    refine cd (by rfl) (fun c1 => ?_) (fun c1 => ?_)
    · try simp only [go_sem] at c1
      refine rg [0, 1, 9, 10] [] [] (by kernel_rfl) ?_; intro κ ξ hκ hξ
      try simp (config := { decide := true }) only [go_sem, Nat.reduceMul, Nat.reduceAdd, Nat.reduceBEq, cond_false, c0, hv1, hv2, Bool.and_self, Bool.true_and, if_true, hk, hkl2, hkl3, hkl, hl0, hq, Nat.add_zero, hd0, hm0, hd1, hm1, hd2, hm2, hd3, hm3, hst0, hst1, hst2, hst3, hml, hrw0, hrw1, hrw2, hrw3, hb28, c1]
      repeat with_reducible refine And.intro (by first | assumption | omega | (simp; done) | (simp; omega) | (intro hg; simp (config := { decide := true }) only [go_sem, hg]; done) | (intro hg; simp (config := { decide := true }) only [go_sem, hg]; omega)) ?_
      refine hκ _ _ ?_; clear hκ hξ ξ κ
      obtain ⟨r2, hr2⟩ : ∃ r2, r2 = ts.set k (lK (tat ts k)) := ⟨_, rfl⟩
      rw [← hr2] at hrw0 hrs0 hrn0 hrx0 ⊢
      have hrl : r2.length = ts.length := by rw [hr2, List.length_set]
      refine fza b28 [10] [] (sz := 4) (rows := r2.map trow) (cap := c28) (by simp [Store.get]) ?_
      refine weak (mk [(0, .sl 5 (l.map nrow) .no), (1, .sl 4 (ts.map trow) .no), (9, .bool true), (10, .sl 4 (r2.map trow) .no)]) (EnvLe.of_l ⟨rfl, rfl, rfl, ?_, trivial⟩) (List.nil_sublist _) ?_
      · have e1 : ts.length ≤ lim := by unfold lim; omega
        have e2 : List.take ts.length (r2.map trow) = r2.map trow := by rw [← hrl]; exact List.take_of_length_le (by rw [List.length_map]; exact Nat.le_refl _)
        show (if b28 = b28 ∧ 4 = 4 ∧ ts.length ≤ (r2.map trow).length ∧ ts.length ≤ c28 ∧ ts.length ≤ lim then D.sl 4 ((r2.map trow).take ts.length) .no else .arr b28 4 ts.length c28) = _
        rw [if_pos ⟨rfl, rfl, by rw [List.length_map, hrl]; exact Nat.le_refl _, hc28, e1⟩, e2]
      refine sq ?_
      refine rg [0, 1, 9, 10, 12, 13] [] [] (by kernel_rfl) ?_; intro κ ξ hκ hξ
      try simp (config := { decide := true }) only [go_sem, Nat.reduceMul, Nat.reduceAdd, Nat.reduceBEq, cond_false, c0, hv1, hv2, Bool.and_self, Bool.true_and, if_true, hk, hkl2, hkl3, hkl, hl0, hq, Nat.add_zero, hd0, hm0, hd1, hm1, hd2, hm2, hd3, hm3, hst0, hst1, hst2, hst3, hml, hrw0, hrw1, hrw2, hrw3, hb28, c1]
      repeat with_reducible refine And.intro (by first | assumption | omega | (simp; done) | (simp; omega) | (intro hg; simp (config := { decide := true }) only [go_sem, hg]; done) | (intro hg; simp (config := { decide := true }) only [go_sem, hg]; omega)) ?_
      refine callF (sall_w _ _ _ _) ?_
      try simp (config := { decide := true }) only [go_sem, Nat.reduceMul, Nat.reduceAdd, Nat.reduceBEq, cond_false, c0, hv1, hv2, Bool.and_self, Bool.true_and, if_true, hk, hkl2, hkl3, hkl, hl0, hq, Nat.add_zero, hd0, hm0, hd1, hm1, hd2, hm2, hd3, hm3, hst0, hst1, hst2, hst3, hml, hrw0, hrw1, hrw2, hrw3, hb28, c1]
      repeat with_reducible refine And.intro (by first | assumption | omega | (simp; done) | (simp; omega) | (intro hg; simp (config := { decide := true }) only [go_sem, hg]; done) | (intro hg; simp (config := { decide := true }) only [go_sem, hg]; omega)) ?_
      refine hκ _ _ ?_; clear hκ hξ ξ κ
      refine sq ?_
      refine rg [1, 9, 10, 12, 13, 14, 15] [] [] (by kernel_rfl) ?_; intro κ ξ hκ hξ
      try simp (config := { decide := true }) only [go_sem, Nat.reduceMul, Nat.reduceAdd, Nat.reduceBEq, cond_false, c0, hv1, hv2, Bool.and_self, Bool.true_and, if_true, hk, hkl2, hkl3, hkl, hl0, hq, Nat.add_zero, hd0, hm0, hd1, hm1, hd2, hm2, hd3, hm3, hst0, hst1, hst2, hst3, hml, hrw0, hrw1, hrw2, hrw3, hb28, c1]
      repeat with_reducible refine And.intro (by first | assumption | omega | (simp; done) | (simp; omega) | (intro hg; simp (config := { decide := true }) only [go_sem, hg]; done) | (intro hg; simp (config := { decide := true }) only [go_sem, hg]; omega)) ?_
      refine callF (sall_w _ _ _ _) ?_
      try simp (config := { decide := true }) only [go_sem, Nat.reduceMul, Nat.reduceAdd, Nat.reduceBEq, cond_false, c0, hv1, hv2, Bool.and_self, Bool.true_and, if_true, hk, hkl2, hkl3, hkl, hl0, hq, Nat.add_zero, hd0, hm0, hd1, hm1, hd2, hm2, hd3, hm3, hst0, hst1, hst2, hst3, hml, hrw0, hrw1, hrw2, hrw3, hb28, c1]
      repeat with_reducible refine And.intro (by first | assumption | omega | (simp; done) | (simp; omega) | (intro hg; simp (config := { decide := true }) only [go_sem, hg]; done) | (intro hg; simp (config := { decide := true }) only [go_sem, hg]; omega)) ?_
      refine hκ _ _ ?_; clear hκ hξ ξ κ
      refine sq ?_
      refine rg [9, 10, 12, 13, 14, 15, 16, 17] [] [] (by kernel_rfl) ?_; intro κ ξ hκ hξ
      try simp (config := { decide := true }) only [go_sem, Nat.reduceMul, Nat.reduceAdd, Nat.reduceBEq, cond_false, c0, hv1, hv2, Bool.and_self, Bool.true_and, if_true, hk, hkl2, hkl3, hkl, hl0, hq, Nat.add_zero, hd0, hm0, hd1, hm1, hd2, hm2, hd3, hm3, hst0, hst1, hst2, hst3, hml, hrw0, hrw1, hrw2, hrw3, hb28, c1]
      repeat with_reducible refine And.intro (by first | assumption | omega | (simp; done) | (simp; omega) | (intro hg; simp (config := { decide := true }) only [go_sem, hg]; done) | (intro hg; simp (config := { decide := true }) only [go_sem, hg]; omega)) ?_
      refine callF (swt_w _ _) ?_
      try simp (config := { decide := true }) only [go_sem, Nat.reduceMul, Nat.reduceAdd, Nat.reduceBEq, cond_false, c0, hv1, hv2, Bool.and_self, Bool.true_and, if_true, hk, hkl2, hkl3, hkl, hl0, hq, Nat.add_zero, hd0, hm0, hd1, hm1, hd2, hm2, hd3, hm3, hst0, hst1, hst2, hst3, hml, hrw0, hrw1, hrw2, hrw3, hb28, c1]
      repeat with_reducible refine And.intro (by first | assumption | omega | (simp; done) | (simp; omega) | (intro hg; simp (config := { decide := true }) only [go_sem, hg]; done) | (intro hg; simp (config := { decide := true }) only [go_sem, hg]; omega)) ?_
      refine hκ _ _ ?_; clear hκ hξ ξ κ
      refine sq ?_
      refine rg [9, 12, 13, 14, 15, 16, 17, 18, 19] [] [] (by kernel_rfl) ?_; intro κ ξ hκ hξ
      try simp (config := { decide := true }) only [go_sem, Nat.reduceMul, Nat.reduceAdd, Nat.reduceBEq, cond_false, c0, hv1, hv2, Bool.and_self, Bool.true_and, if_true, hk, hkl2, hkl3, hkl, hl0, hq, Nat.add_zero, hd0, hm0, hd1, hm1, hd2, hm2, hd3, hm3, hst0, hst1, hst2, hst3, hml, hrw0, hrw1, hrw2, hrw3, hb28, c1]
      repeat with_reducible refine And.intro (by first | assumption | omega | (simp; done) | (simp; omega) | (intro hg; simp (config := { decide := true }) only [go_sem, hg]; done) | (intro hg; simp (config := { decide := true }) only [go_sem, hg]; omega)) ?_
      refine callF (swt_w _ _) ?_
      try simp (config := { decide := true }) only [go_sem, Nat.reduceMul, Nat.reduceAdd, Nat.reduceBEq, cond_false, c0, hv1, hv2, Bool.and_self, Bool.true_and, if_true, hk, hkl2, hkl3, hkl, hl0, hq, Nat.add_zero, hd0, hm0, hd1, hm1, hd2, hm2, hd3, hm3, hst0, hst1, hst2, hst3, hml, hrw0, hrw1, hrw2, hrw3, hb28, c1]
      repeat with_reducible refine And.intro (by first | assumption | omega | (simp; done) | (simp; omega) | (intro hg; simp (config := { decide := true }) only [go_sem, hg]; done) | (intro hg; simp (config := { decide := true }) only [go_sem, hg]; omega)) ?_
      refine hκ _ _ ?_; clear hκ hξ ξ κ
      refine sq ?_
      refine rg [8] [] [(1, 83), (5, 87), (9, 91), (13, 95), (17, 99), (22, 104), (27, 109)] (by kernel_rfl) ?_; intro κ ξ hκ hξ
      try simp (config := { decide := true }) only [go_sem, Nat.reduceMul, Nat.reduceAdd, Nat.reduceBEq, cond_false, c0, hv1, hv2, Bool.and_self, Bool.true_and, if_true, hk, hkl2, hkl3, hkl, hl0, hq, Nat.add_zero, hd0, hm0, hd1, hm1, hd2, hm2, hd3, hm3, hst0, hst1, hst2, hst3, hml, hrw0, hrw1, hrw2, hrw3, hb28, c1]
      repeat with_reducible refine And.intro (by first | assumption | omega | (simp; done) | (simp; omega) | (intro hg; simp (config := { decide := true }) only [go_sem, hg]; done) | (intro hg; simp (config := { decide := true }) only [go_sem, hg]; omega)) ?_
      refine vo_gc ?_; simp (config := { decide := true }) only [go_sem, c0, hv1, hv2, Bool.and_self, Bool.true_and, if_true, hk, hkl2, hkl3, hkl, hl0, hq, Nat.add_zero, hd0, hm0, hd1, hm1, hd2, hm2, hd3, hm3, hst0, hst1, hst2, hst3, hml, hrw0, hrw1, hrw2, hrw3, hb28, c1]; refine gcallF (fun hg => ⟨by first | rfl | (simp (config := { decide := true }) only [go_sem, hg, c0, hv1, hv2, Bool.and_self, Bool.true_and, if_true, hk, hkl2, hkl3, hkl, hl0, hq, Nat.add_zero, hd0, hm0, hd1, hm1, hd2, hm2, hd3, hm3, hst0, hst1, hst2, hst3, hml, hrw0, hrw1, hrw2, hrw3, hb28, c1]; done) | exact hg | simpa using hg, part_w _ _ _ _⟩) ?_
      try simp (config := { decide := true }) only [go_sem, Nat.reduceMul, Nat.reduceAdd, Nat.reduceBEq, cond_false, c0, hv1, hv2, Bool.and_self, Bool.true_and, if_true, hk, hkl2, hkl3, hkl, hl0, hq, Nat.add_zero, hd0, hm0, hd1, hm1, hd2, hm2, hd3, hm3, hst0, hst1, hst2, hst3, hml, hrw0, hrw1, hrw2, hrw3, hb28, c1]
      repeat with_reducible refine And.intro (by first | assumption | omega | (simp; done) | (simp; omega) | (intro hg; simp (config := { decide := true }) only [go_sem, hg]; done) | (intro hg; simp (config := { decide := true }) only [go_sem, hg]; omega)) ?_
      refine hκ _ _ ?_; clear hκ hξ ξ κ
      refine rt ?_
      refine retE ?_
      simp (config := { decide := true }) only [go_sem, resD, resV, c0, hv1, hv2, Bool.and_self, Bool.true_and, if_true, hk, hkl2, hkl3, hkl, hl0, hq, Nat.add_zero, hd0, hm0, hd1, hm1, hd2, hm2, hd3, hm3, hst0, hst1, hst2, hst3, hml, hrw0, hrw1, hrw2, hrw3, hb28, c1]
      all_goals simp
      exact ⟨⟨hrs0 _, hrx0⟩, hrn0⟩
    · try simp only [go_sem] at c1
      refine sq ?_
      refine rg [0, 1, 9, 10, 11, 35, 42] [] [] (by kernel_rfl) ?_; intro κ ξ hκ hξ
      try simp (config := { decide := true }) only [go_sem, Nat.reduceMul, Nat.reduceAdd, Nat.reduceBEq, cond_false, c0, hv1, hv2, Bool.and_self, Bool.true_and, if_true, hk, hkl2, hkl3, hkl, hl0, hq, Nat.add_zero, hd0, hm0, hd1, hm1, hd2, hm2, hd3, hm3, hst0, hst1, hst2, hst3, hml, hrw0, hrw1, hrw2, hrw3, hb28, c1]
      repeat with_reducible refine And.intro (by first | assumption | omega | (simp; done) | (simp; omega) | (intro hg; simp (config := { decide := true }) only [go_sem, hg]; done) | (intro hg; simp (config := { decide := true }) only [go_sem, hg]; omega)) ?_
      refine hκ _ _ ?_; clear hκ hξ ξ κ
      refine cd (by rfl) (fun c2 => ?_) (fun c2 => ?_)
      · try simp only [go_sem] at c2
        refine rg [0, 1, 9, 10] [] [] (by kernel_rfl) ?_; intro κ ξ hκ hξ
        try simp (config := { decide := true }) only [go_sem, Nat.reduceMul, Nat.reduceAdd, Nat.reduceBEq, cond_false, c0, hv1, hv2, Bool.and_self, Bool.true_and, if_true, hk, hkl2, hkl3, hkl, hl0, hq, Nat.add_zero, hd0, hm0, hd1, hm1, hd2, hm2, hd3, hm3, hst0, hst1, hst2, hst3, hml, hrw0, hrw1, hrw2, hrw3, hb28, c1, c2]
        repeat with_reducible refine And.intro (by first | assumption | omega | (simp; done) | (simp; omega) | (intro hg; simp (config := { decide := true }) only [go_sem, hg]; done) | (intro hg; simp (config := { decide := true }) only [go_sem, hg]; omega)) ?_
        refine hκ _ _ ?_; clear hκ hξ ξ κ
        obtain ⟨r2, hr2⟩ : ∃ r2, r2 = ts.set k (lC (tat ts k)) := ⟨_, rfl⟩
        rw [← hr2] at hrw1 hrs1 hrn1 hrx1 ⊢
        have hrl : r2.length = ts.length := by rw [hr2, List.length_set]
        refine fza b28 [10] [] (sz := 4) (rows := r2.map trow) (cap := c28) (by simp [Store.get]) ?_
        refine weak (mk [(0, .sl 5 (l.map nrow) .no), (1, .sl 4 (ts.map trow) .no), (9, .bool true), (10, .sl 4 (r2.map trow) .no)]) (EnvLe.of_l ⟨rfl, rfl, rfl, ?_, trivial⟩) (List.nil_sublist _) ?_
        · have e1 : ts.length ≤ lim := by unfold lim; omega
          have e2 : List.take ts.length (r2.map trow) = r2.map trow := by rw [← hrl]; exact List.take_of_length_le (by rw [List.length_map]; exact Nat.le_refl _)
          show (if b28 = b28 ∧ 4 = 4 ∧ ts.length ≤ (r2.map trow).length ∧ ts.length ≤ c28 ∧ ts.length ≤ lim then D.sl 4 ((r2.map trow).take ts.length) .no else .arr b28 4 ts.length c28) = _
          rw [if_pos ⟨rfl, rfl, by rw [List.length_map, hrl]; exact Nat.le_refl _, hc28, e1⟩, e2]
        refine sq ?_
        refine rg [0, 1, 9, 10, 12, 13] [] [] (by kernel_rfl) ?_; intro κ ξ hκ hξ
        try simp (config := { decide := true }) only [go_sem, Nat.reduceMul, Nat.reduceAdd, Nat.reduceBEq, cond_false, c0, hv1, hv2, Bool.and_self, Bool.true_and, if_true, hk, hkl2, hkl3, hkl, hl0, hq, Nat.add_zero, hd0, hm0, hd1, hm1, hd2, hm2, hd3, hm3, hst0, hst1, hst2, hst3, hml, hrw0, hrw1, hrw2, hrw3, hb28, c1, c2]
        repeat with_reducible refine And.intro (by first | assumption | omega | (simp; done) | (simp; omega) | (intro hg; simp (config := { decide := true }) only [go_sem, hg]; done) | (intro hg; simp (config := { decide := true }) only [go_sem, hg]; omega)) ?_
        refine callF (sall_w _ _ _ _) ?_
        try simp (config := { decide := true }) only [go_sem, Nat.reduceMul, Nat.reduceAdd, Nat.reduceBEq, cond_false, c0, hv1, hv2, Bool.and_self, Bool.true_and, if_true, hk, hkl2, hkl3, hkl, hl0, hq, Nat.add_zero, hd0, hm0, hd1, hm1, hd2, hm2, hd3, hm3, hst0, hst1, hst2, hst3, hml, hrw0, hrw1, hrw2, hrw3, hb28, c1, c2]
        repeat with_reducible refine And.intro (by first | assumption | omega | (simp; done) | (simp; omega) | (intro hg; simp (config := { decide := true }) only [go_sem, hg]; done) | (intro hg; simp (config := { decide := true }) only [go_sem, hg]; omega)) ?_
        refine hκ _ _ ?_; clear hκ hξ ξ κ
        refine sq ?_
        refine rg [1, 9, 10, 12, 13, 14, 15] [] [] (by kernel_rfl) ?_; intro κ ξ hκ hξ
        try simp (config := { decide := true }) only [go_sem, Nat.reduceMul, Nat.reduceAdd, Nat.reduceBEq, cond_false, c0, hv1, hv2, Bool.and_self, Bool.true_and, if_true, hk, hkl2, hkl3, hkl, hl0, hq, Nat.add_zero, hd0, hm0, hd1, hm1, hd2, hm2, hd3, hm3, hst0, hst1, hst2, hst3, hml, hrw0, hrw1, hrw2, hrw3, hb28, c1, c2]
        repeat with_reducible refine And.intro (by first | assumption | omega | (simp; done) | (simp; omega) | (intro hg; simp (config := { decide := true }) only [go_sem, hg]; done) | (intro hg; simp (config := { decide := true }) only [go_sem, hg]; omega)) ?_
        refine callF (sall_w _ _ _ _) ?_
        try simp (config := { decide := true }) only [go_sem, Nat.reduceMul, Nat.reduceAdd, Nat.reduceBEq, cond_false, c0, hv1, hv2, Bool.and_self, Bool.true_and, if_true, hk, hkl2, hkl3, hkl, hl0, hq, Nat.add_zero, hd0, hm0, hd1, hm1, hd2, hm2, hd3, hm3, hst0, hst1, hst2, hst3, hml, hrw0, hrw1, hrw2, hrw3, hb28, c1, c2]
        repeat with_reducible refine And.intro (by first | assumption | omega | (simp; done) | (simp; omega) | (intro hg; simp (config := { decide := true }) only [go_sem, hg]; done) | (intro hg; simp (config := { decide := true }) only [go_sem, hg]; omega)) ?_
        refine hκ _ _ ?_; clear hκ hξ ξ κ
        refine sq ?_
        refine rg [9, 10, 12, 13, 14, 15, 16, 17] [] [] (by kernel_rfl) ?_; intro κ ξ hκ hξ
        try simp (config := { decide := true }) only [go_sem, Nat.reduceMul, Nat.reduceAdd, Nat.reduceBEq, cond_false, c0, hv1, hv2, Bool.and_self, Bool.true_and, if_true, hk, hkl2, hkl3, hkl, hl0, hq, Nat.add_zero, hd0, hm0, hd1, hm1, hd2, hm2, hd3, hm3, hst0, hst1, hst2, hst3, hml, hrw0, hrw1, hrw2, hrw3, hb28, c1, c2]
        repeat with_reducible refine And.intro (by first | assumption | omega | (simp; done) | (simp; omega) | (intro hg; simp (config := { decide := true }) only [go_sem, hg]; done) | (intro hg; simp (config := { decide := true }) only [go_sem, hg]; omega)) ?_
        refine callF (swt_w _ _) ?_
        try simp (config := { decide := true }) only [go_sem, Nat.reduceMul, Nat.reduceAdd, Nat.reduceBEq, cond_false, c0, hv1, hv2, Bool.and_self, Bool.true_and, if_true, hk, hkl2, hkl3, hkl, hl0, hq, Nat.add_zero, hd0, hm0, hd1, hm1, hd2, hm2, hd3, hm3, hst0, hst1, hst2, hst3, hml, hrw0, hrw1, hrw2, hrw3, hb28, c1, c2]
        repeat with_reducible refine And.intro (by first | assumption | omega | (simp; done) | (simp; omega) | (intro hg; simp (config := { decide := true }) only [go_sem, hg]; done) | (intro hg; simp (config := { decide := true }) only [go_sem, hg]; omega)) ?_
        refine hκ _ _ ?_; clear hκ hξ ξ κ
        refine sq ?_
        refine rg [9, 12, 13, 14, 15, 16, 17, 18, 19] [] [] (by kernel_rfl) ?_; intro κ ξ hκ hξ
        try simp (config := { decide := true }) only [go_sem, Nat.reduceMul, Nat.reduceAdd, Nat.reduceBEq, cond_false, c0, hv1, hv2, Bool.and_self, Bool.true_and, if_true, hk, hkl2, hkl3, hkl, hl0, hq, Nat.add_zero, hd0, hm0, hd1, hm1, hd2, hm2, hd3, hm3, hst0, hst1, hst2, hst3, hml, hrw0, hrw1, hrw2, hrw3, hb28, c1, c2]
        repeat with_reducible refine And.intro (by first | assumption | omega | (simp; done) | (simp; omega) | (intro hg; simp (config := { decide := true }) only [go_sem, hg]; done) | (intro hg; simp (config := { decide := true }) only [go_sem, hg]; omega)) ?_
        refine callF (swt_w _ _) ?_
        try simp (config := { decide := true }) only [go_sem, Nat.reduceMul, Nat.reduceAdd, Nat.reduceBEq, cond_false, c0, hv1, hv2, Bool.and_self, Bool.true_and, if_true, hk, hkl2, hkl3, hkl, hl0, hq, Nat.add_zero, hd0, hm0, hd1, hm1, hd2, hm2, hd3, hm3, hst0, hst1, hst2, hst3, hml, hrw0, hrw1, hrw2, hrw3, hb28, c1, c2]
        repeat with_reducible refine And.intro (by first | assumption | omega | (simp; done) | (simp; omega) | (intro hg; simp (config := { decide := true }) only [go_sem, hg]; done) | (intro hg; simp (config := { decide := true }) only [go_sem, hg]; omega)) ?_
        refine hκ _ _ ?_; clear hκ hξ ξ κ
        refine sq ?_
        refine rg [8] [] [(1, 83), (5, 87), (9, 91), (13, 95), (17, 99), (22, 104), (27, 109)] (by kernel_rfl) ?_; intro κ ξ hκ hξ
        try simp (config := { decide := true }) only [go_sem, Nat.reduceMul, Nat.reduceAdd, Nat.reduceBEq, cond_false, c0, hv1, hv2, Bool.and_self, Bool.true_and, if_true, hk, hkl2, hkl3, hkl, hl0, hq, Nat.add_zero, hd0, hm0, hd1, hm1, hd2, hm2, hd3, hm3, hst0, hst1, hst2, hst3, hml, hrw0, hrw1, hrw2, hrw3, hb28, c1, c2]
        repeat with_reducible refine And.intro (by first | assumption | omega | (simp; done) | (simp; omega) | (intro hg; simp (config := { decide := true }) only [go_sem, hg]; done) | (intro hg; simp (config := { decide := true }) only [go_sem, hg]; omega)) ?_
        refine vo_gc ?_; simp (config := { decide := true }) only [go_sem, c0, hv1, hv2, Bool.and_self, Bool.true_and, if_true, hk, hkl2, hkl3, hkl, hl0, hq, Nat.add_zero, hd0, hm0, hd1, hm1, hd2, hm2, hd3, hm3, hst0, hst1, hst2, hst3, hml, hrw0, hrw1, hrw2, hrw3, hb28, c1, c2]; refine gcallF (fun hg => ⟨by first | rfl | (simp (config := { decide := true }) only [go_sem, hg, c0, hv1, hv2, Bool.and_self, Bool.true_and, if_true, hk, hkl2, hkl3, hkl, hl0, hq, Nat.add_zero, hd0, hm0, hd1, hm1, hd2, hm2, hd3, hm3, hst0, hst1, hst2, hst3, hml, hrw0, hrw1, hrw2, hrw3, hb28, c1, c2]; done) | exact hg | simpa using hg, part_w _ _ _ _⟩) ?_
        try simp (config := { decide := true }) only [go_sem, Nat.reduceMul, Nat.reduceAdd, Nat.reduceBEq, cond_false, c0, hv1, hv2, Bool.and_self, Bool.true_and, if_true, hk, hkl2, hkl3, hkl, hl0, hq, Nat.add_zero, hd0, hm0, hd1, hm1, hd2, hm2, hd3, hm3, hst0, hst1, hst2, hst3, hml, hrw0, hrw1, hrw2, hrw3, hb28, c1, c2]
        repeat with_reducible refine And.intro (by first | assumption | omega | (simp; done) | (simp; omega) | (intro hg; simp (config := { decide := true }) only [go_sem, hg]; done) | (intro hg; simp (config := { decide := true }) only [go_sem, hg]; omega)) ?_
        refine hκ _ _ ?_; clear hκ hξ ξ κ
        refine rt ?_
        refine retE ?_
        simp (config := { decide := true }) only [go_sem, resD, resV, c0, hv1, hv2, Bool.and_self, Bool.true_and, if_true, hk, hkl2, hkl3, hkl, hl0, hq, Nat.add_zero, hd0, hm0, hd1, hm1, hd2, hm2, hd3, hm3, hst0, hst1, hst2, hst3, hml, hrw0, hrw1, hrw2, hrw3, hb28, c1, c2]
        all_goals simp
        exact ⟨⟨hrs1 _, hrx1⟩, hrn1⟩
      · try simp only [go_sem] at c2
        refine sq ?_
        refine rg [0, 1, 9, 10, 11, 35, 48] [] [] (by kernel_rfl) ?_; intro κ ξ hκ hξ
        try simp (config := { decide := true }) only [go_sem, Nat.reduceMul, Nat.reduceAdd, Nat.reduceBEq, cond_false, c0, hv1, hv2, Bool.and_self, Bool.true_and, if_true, hk, hkl2, hkl3, hkl, hl0, hq, Nat.add_zero, hd0, hm0, hd1, hm1, hd2, hm2, hd3, hm3, hst0, hst1, hst2, hst3, hml, hrw0, hrw1, hrw2, hrw3, hb28, c1, c2]
        repeat with_reducible refine And.intro (by first | assumption | omega | (simp; done) | (simp; omega) | (intro hg; simp (config := { decide := true }) only [go_sem, hg]; done) | (intro hg; simp (config := { decide := true }) only [go_sem, hg]; omega)) ?_
        refine hκ _ _ ?_; clear hκ hξ ξ κ
        refine cd (by rfl) (fun c3 => ?_) (fun c3 => ?_)
        · try simp only [go_sem] at c3
          refine rg [0, 1, 9, 10] [] [] (by kernel_rfl) ?_; intro κ ξ hκ hξ
          try simp (config := { decide := true }) only [go_sem, Nat.reduceMul, Nat.reduceAdd, Nat.reduceBEq, cond_false, c0, hv1, hv2, Bool.and_self, Bool.true_and, if_true, hk, hkl2, hkl3, hkl, hl0, hq, Nat.add_zero, hd0, hm0, hd1, hm1, hd2, hm2, hd3, hm3, hst0, hst1, hst2, hst3, hml, hrw0, hrw1, hrw2, hrw3, hb28, c1, c2, c3]
          repeat with_reducible refine And.intro (by first | assumption | omega | (simp; done) | (simp; omega) | (intro hg; simp (config := { decide := true }) only [go_sem, hg]; done) | (intro hg; simp (config := { decide := true }) only [go_sem, hg]; omega)) ?_
          refine hκ _ _ ?_; clear hκ hξ ξ κ
          obtain ⟨r2, hr2⟩ : ∃ r2, r2 = ts.set k (lI (tat ts k)) := ⟨_, rfl⟩
          rw [← hr2] at hrw2 hrs2 hrn2 hrx2 ⊢
          have hrl : r2.length = ts.length := by rw [hr2, List.length_set]
          refine fza b28 [10] [] (sz := 4) (rows := r2.map trow) (cap := c28) (by simp [Store.get]) ?_
          refine weak (mk [(0, .sl 5 (l.map nrow) .no), (1, .sl 4 (ts.map trow) .no), (9, .bool true), (10, .sl 4 (r2.map trow) .no)]) (EnvLe.of_l ⟨rfl, rfl, rfl, ?_, trivial⟩) (List.nil_sublist _) ?_
          · have e1 : ts.length ≤ lim := by unfold lim; omega
            have e2 : List.take ts.length (r2.map trow) = r2.map trow := by rw [← hrl]; exact List.take_of_length_le (by rw [List.length_map]; exact Nat.le_refl _)
            show (if b28 = b28 ∧ 4 = 4 ∧ ts.length ≤ (r2.map trow).length ∧ ts.length ≤ c28 ∧ ts.length ≤ lim then D.sl 4 ((r2.map trow).take ts.length) .no else .arr b28 4 ts.length c28) = _
            rw [if_pos ⟨rfl, rfl, by rw [List.length_map, hrl]; exact Nat.le_refl _, hc28, e1⟩, e2]
          refine sq ?_
          refine rg [0, 1, 9, 10, 12, 13] [] [] (by kernel_rfl) ?_; intro κ ξ hκ hξ
          try simp (config := { decide := true }) only [go_sem, Nat.reduceMul, Nat.reduceAdd, Nat.reduceBEq, cond_false, c0, hv1, hv2, Bool.and_self, Bool.true_and, if_true, hk, hkl2, hkl3, hkl, hl0, hq, Nat.add_zero, hd0, hm0, hd1, hm1, hd2, hm2, hd3, hm3, hst0, hst1, hst2, hst3, hml, hrw0, hrw1, hrw2, hrw3, hb28, c1, c2, c3]
          repeat with_reducible refine And.intro (by first | assumption | omega | (simp; done) | (simp; omega) | (intro hg; simp (config := { decide := true }) only [go_sem, hg]; done) | (intro hg; simp (config := { decide := true }) only [go_sem, hg]; omega)) ?_
          refine callF (sall_w _ _ _ _) ?_
          try simp (config := { decide := true }) only [go_sem, Nat.reduceMul, Nat.reduceAdd, Nat.reduceBEq, cond_false, c0, hv1, hv2, Bool.and_self, Bool.true_and, if_true, hk, hkl2, hkl3, hkl, hl0, hq, Nat.add_zero, hd0, hm0, hd1, hm1, hd2, hm2, hd3, hm3, hst0, hst1, hst2, hst3, hml, hrw0, hrw1, hrw2, hrw3, hb28, c1, c2, c3]
          repeat with_reducible refine And.intro (by first | assumption | omega | (simp; done) | (simp; omega) | (intro hg; simp (config := { decide := true }) only [go_sem, hg]; done) | (intro hg; simp (config := { decide := true }) only [go_sem, hg]; omega)) ?_
          refine hκ _ _ ?_; clear hκ hξ ξ κ
          refine sq ?_
          refine rg [1, 9, 10, 12, 13, 14, 15] [] [] (by kernel_rfl) ?_; intro κ ξ hκ hξ
          try simp (config := { decide := true }) only [go_sem, Nat.reduceMul, Nat.reduceAdd, Nat.reduceBEq, cond_false, c0, hv1, hv2, Bool.and_self, Bool.true_and, if_true, hk, hkl2, hkl3, hkl, hl0, hq, Nat.add_zero, hd0, hm0, hd1, hm1, hd2, hm2, hd3, hm3, hst0, hst1, hst2, hst3, hml, hrw0, hrw1, hrw2, hrw3, hb28, c1, c2, c3]
          repeat with_reducible refine And.intro (by first | assumption | omega | (simp; done) | (simp; omega) | (intro hg; simp (config := { decide := true }) only [go_sem, hg]; done) | (intro hg; simp (config := { decide := true }) only [go_sem, hg]; omega)) ?_
          refine callF (sall_w _ _ _ _) ?_
          try simp (config := { decide := true }) only [go_sem, Nat.reduceMul, Nat.reduceAdd, Nat.reduceBEq, cond_false, c0, hv1, hv2, Bool.and_self, Bool.true_and, if_true, hk, hkl2, hkl3, hkl, hl0, hq, Nat.add_zero, hd0, hm0, hd1, hm1, hd2, hm2, hd3, hm3, hst0, hst1, hst2, hst3, hml, hrw0, hrw1, hrw2, hrw3, hb28, c1, c2, c3]
          repeat with_reducible refine And.intro (by first | assumption | omega | (simp; done) | (simp; omega) | (intro hg; simp (config := { decide := true }) only [go_sem, hg]; done) | (intro hg; simp (config := { decide := true }) only [go_sem, hg]; omega)) ?_
          refine hκ _ _ ?_; clear hκ hξ ξ κ
          refine sq ?_
          refine rg [9, 10, 12, 13, 14, 15, 16, 17] [] [] (by kernel_rfl) ?_; intro κ ξ hκ hξ
          try simp (config := { decide := true }) only [go_sem, Nat.reduceMul, Nat.reduceAdd, Nat.reduceBEq, cond_false, c0, hv1, hv2, Bool.and_self, Bool.true_and, if_true, hk, hkl2, hkl3, hkl, hl0, hq, Nat.add_zero, hd0, hm0, hd1, hm1, hd2, hm2, hd3, hm3, hst0, hst1, hst2, hst3, hml, hrw0, hrw1, hrw2, hrw3, hb28, c1, c2, c3]
          repeat with_reducible refine And.intro (by first | assumption | omega | (simp; done) | (simp; omega) | (intro hg; simp (config := { decide := true }) only [go_sem, hg]; done) | (intro hg; simp (config := { decide := true }) only [go_sem, hg]; omega)) ?_
          refine callF (swt_w _ _) ?_
          try simp (config := { decide := true }) only [go_sem, Nat.reduceMul, Nat.reduceAdd, Nat.reduceBEq, cond_false, c0, hv1, hv2, Bool.and_self, Bool.true_and, if_true, hk, hkl2, hkl3, hkl, hl0, hq, Nat.add_zero, hd0, hm0, hd1, hm1, hd2, hm2, hd3, hm3, hst0, hst1, hst2, hst3, hml, hrw0, hrw1, hrw2, hrw3, hb28, c1, c2, c3]
          repeat with_reducible refine And.intro (by first | assumption | omega | (simp; done) | (simp; omega) | (intro hg; simp (config := { decide := true }) only [go_sem, hg]; done) | (intro hg; simp (config := { decide := true }) only [go_sem, hg]; omega)) ?_
          refine hκ _ _ ?_; clear hκ hξ ξ κ
          refine sq ?_
          refine rg [9, 12, 13, 14, 15, 16, 17, 18, 19] [] [] (by kernel_rfl) ?_; intro κ ξ hκ hξ
          try simp (config := { decide := true }) only [go_sem, Nat.reduceMul, Nat.reduceAdd, Nat.reduceBEq, cond_false, c0, hv1, hv2, Bool.and_self, Bool.true_and, if_true, hk, hkl2, hkl3, hkl, hl0, hq, Nat.add_zero, hd0, hm0, hd1, hm1, hd2, hm2, hd3, hm3, hst0, hst1, hst2, hst3, hml, hrw0, hrw1, hrw2, hrw3, hb28, c1, c2, c3]
          repeat with_reducible refine And.intro (by first | assumption | omega | (simp; done) | (simp; omega) | (intro hg; simp (config := { decide := true }) only [go_sem, hg]; done) | (intro hg; simp (config := { decide := true }) only [go_sem, hg]; omega)) ?_
          refine callF (swt_w _ _) ?_
          try simp (config := { decide := true }) only [go_sem, Nat.reduceMul, Nat.reduceAdd, Nat.reduceBEq, cond_false, c0, hv1, hv2, Bool.and_self, Bool.true_and, if_true, hk, hkl2, hkl3, hkl, hl0, hq, Nat.add_zero, hd0, hm0, hd1, hm1, hd2, hm2, hd3, hm3, hst0, hst1, hst2, hst3, hml, hrw0, hrw1, hrw2, hrw3, hb28, c1, c2, c3]
          repeat with_reducible refine And.intro (by first | assumption | omega | (simp; done) | (simp; omega) | (intro hg; simp (config := { decide := true }) only [go_sem, hg]; done) | (intro hg; simp (config := { decide := true }) only [go_sem, hg]; omega)) ?_
          refine hκ _ _ ?_; clear hκ hξ ξ κ
          refine sq ?_
          refine rg [8] [] [(1, 83), (5, 87), (9, 91), (13, 95), (17, 99), (22, 104), (27, 109)] (by kernel_rfl) ?_; intro κ ξ hκ hξ
          try simp (config := { decide := true }) only [go_sem, Nat.reduceMul, Nat.reduceAdd, Nat.reduceBEq, cond_false, c0, hv1, hv2, Bool.and_self, Bool.true_and, if_true, hk, hkl2, hkl3, hkl, hl0, hq, Nat.add_zero, hd0, hm0, hd1, hm1, hd2, hm2, hd3, hm3, hst0, hst1, hst2, hst3, hml, hrw0, hrw1, hrw2, hrw3, hb28, c1, c2, c3]
          repeat with_reducible refine And.intro (by first | assumption | omega | (simp; done) | (simp; omega) | (intro hg; simp (config := { decide := true }) only [go_sem, hg]; done) | (intro hg; simp (config := { decide := true }) only [go_sem, hg]; omega)) ?_
          refine vo_gc ?_; simp (config := { decide := true }) only [go_sem, c0, hv1, hv2, Bool.and_self, Bool.true_and, if_true, hk, hkl2, hkl3, hkl, hl0, hq, Nat.add_zero, hd0, hm0, hd1, hm1, hd2, hm2, hd3, hm3, hst0, hst1, hst2, hst3, hml, hrw0, hrw1, hrw2, hrw3, hb28, c1, c2, c3]; refine gcallF (fun hg => ⟨by first | rfl | (simp (config := { decide := true }) only [go_sem, hg, c0, hv1, hv2, Bool.and_self, Bool.true_and, if_true, hk, hkl2, hkl3, hkl, hl0, hq, Nat.add_zero, hd0, hm0, hd1, hm1, hd2, hm2, hd3, hm3, hst0, hst1, hst2, hst3, hml, hrw0, hrw1, hrw2, hrw3, hb28, c1, c2, c3]; done) | exact hg | simpa using hg, part_w _ _ _ _⟩) ?_
          try simp (config := { decide := true }) only [go_sem, Nat.reduceMul, Nat.reduceAdd, Nat.reduceBEq, cond_false, c0, hv1, hv2, Bool.and_self, Bool.true_and, if_true, hk, hkl2, hkl3, hkl, hl0, hq, Nat.add_zero, hd0, hm0, hd1, hm1, hd2, hm2, hd3, hm3, hst0, hst1, hst2, hst3, hml, hrw0, hrw1, hrw2, hrw3, hb28, c1, c2, c3]
          repeat with_reducible refine And.intro (by first | assumption | omega | (simp; done) | (simp; omega) | (intro hg; simp (config := { decide := true }) only [go_sem, hg]; done) | (intro hg; simp (config := { decide := true }) only [go_sem, hg]; omega)) ?_
          refine hκ _ _ ?_; clear hκ hξ ξ κ
          refine rt ?_
          refine retE ?_
          simp (config := { decide := true }) only [go_sem, resD, resV, c0, hv1, hv2, Bool.and_self, Bool.true_and, if_true, hk, hkl2, hkl3, hkl, hl0, hq, Nat.add_zero, hd0, hm0, hd1, hm1, hd2, hm2, hd3, hm3, hst0, hst1, hst2, hst3, hml, hrw0, hrw1, hrw2, hrw3, hb28, c1, c2, c3]
          all_goals simp
          exact ⟨⟨hrs2 _, hrx2⟩, hrn2⟩
        · try simp only [go_sem] at c3
          refine sq ?_
          refine rg [0, 1, 9, 10, 11, 54] [] [] (by kernel_rfl) ?_; intro κ ξ hκ hξ
          try simp (config := { decide := true }) only [go_sem, Nat.reduceMul, Nat.reduceAdd, Nat.reduceBEq, cond_false, c0, hv1, hv2, Bool.and_self, Bool.true_and, if_true, hk, hkl2, hkl3, hkl, hl0, hq, Nat.add_zero, hd0, hm0, hd1, hm1, hd2, hm2, hd3, hm3, hst0, hst1, hst2, hst3, hml, hrw0, hrw1, hrw2, hrw3, hb28, c1, c2, c3]
          repeat with_reducible refine And.intro (by first | assumption | omega | (simp; done) | (simp; omega) | (intro hg; simp (config := { decide := true }) only [go_sem, hg]; done) | (intro hg; simp (config := { decide := true }) only [go_sem, hg]; omega)) ?_
          refine hκ _ _ ?_; clear hκ hξ ξ κ
          refine cd (by rfl) (fun c4 => ?_) (fun c4 => ?_)
          · simp only [go_sem] at c4
            refine rg [0, 1, 9, 10] [] [] (by kernel_rfl) ?_; intro κ ξ hκ hξ
            try simp (config := { decide := true }) only [go_sem, Nat.reduceMul, Nat.reduceAdd, Nat.reduceBEq, cond_false, c0, hv1, hv2, Bool.and_self, Bool.true_and, if_true, hk, hkl2, hkl3, hkl, hl0, hq, Nat.add_zero, hd0, hm0, hd1, hm1, hd2, hm2, hd3, hm3, hst0, hst1, hst2, hst3, hml, hrw0, hrw1, hrw2, hrw3, hb28, c1, c2, c3, c4]
            repeat with_reducible refine And.intro (by first | assumption | omega | (simp; done) | (simp; omega) | (intro hg; simp (config := { decide := true }) only [go_sem, hg]; done) | (intro hg; simp (config := { decide := true }) only [go_sem, hg]; omega)) ?_
            refine hκ _ _ ?_; clear hκ hξ ξ κ
            obtain ⟨r2, hr2⟩ : ∃ r2, r2 = ts.set k (noC (tat ts k)) := ⟨_, rfl⟩
            rw [← hr2] at hrw3 hrs3 hrn3 hrx3 ⊢
            have hrl : r2.length = ts.length := by rw [hr2, List.length_set]
            refine fza b28 [10] [] (sz := 4) (rows := r2.map trow) (cap := c28) (by simp [Store.get]) ?_
            refine weak (mk [(0, .sl 5 (l.map nrow) .no), (1, .sl 4 (ts.map trow) .no), (9, .bool true), (10, .sl 4 (r2.map trow) .no)]) (EnvLe.of_l ⟨rfl, rfl, rfl, ?_, trivial⟩) (List.nil_sublist _) ?_
            · have e1 : ts.length ≤ lim := by unfold lim; omega
              have e2 : List.take ts.length (r2.map trow) = r2.map trow := by rw [← hrl]; exact List.take_of_length_le (by rw [List.length_map]; exact Nat.le_refl _)
              show (if b28 = b28 ∧ 4 = 4 ∧ ts.length ≤ (r2.map trow).length ∧ ts.length ≤ c28 ∧ ts.length ≤ lim then D.sl 4 ((r2.map trow).take ts.length) .no else .arr b28 4 ts.length c28) = _
              rw [if_pos ⟨rfl, rfl, by rw [List.length_map, hrl]; exact Nat.le_refl _, hc28, e1⟩, e2]
            refine sq ?_
            refine rg [0, 1, 9, 10, 12, 13] [] [] (by kernel_rfl) ?_; intro κ ξ hκ hξ
            try simp (config := { decide := true }) only [go_sem, Nat.reduceMul, Nat.reduceAdd, Nat.reduceBEq, cond_false, c0, hv1, hv2, Bool.and_self, Bool.true_and, if_true, hk, hkl2, hkl3, hkl, hl0, hq, Nat.add_zero, hd0, hm0, hd1, hm1, hd2, hm2, hd3, hm3, hst0, hst1, hst2, hst3, hml, hrw0, hrw1, hrw2, hrw3, hb28, c1, c2, c3, c4]
            repeat with_reducible refine And.intro (by first | assumption | omega | (simp; done) | (simp; omega) | (intro hg; simp (config := { decide := true }) only [go_sem, hg]; done) | (intro hg; simp (config := { decide := true }) only [go_sem, hg]; omega)) ?_
            refine callF (sall_w _ _ _ _) ?_
            try simp (config := { decide := true }) only [go_sem, Nat.reduceMul, Nat.reduceAdd, Nat.reduceBEq, cond_false, c0, hv1, hv2, Bool.and_self, Bool.true_and, if_true, hk, hkl2, hkl3, hkl, hl0, hq, Nat.add_zero, hd0, hm0, hd1, hm1, hd2, hm2, hd3, hm3, hst0, hst1, hst2, hst3, hml, hrw0, hrw1, hrw2, hrw3, hb28, c1, c2, c3, c4]
            repeat with_reducible refine And.intro (by first | assumption | omega | (simp; done) | (simp; omega) | (intro hg; simp (config := { decide := true }) only [go_sem, hg]; done) | (intro hg; simp (config := { decide := true }) only [go_sem, hg]; omega)) ?_
            refine hκ _ _ ?_; clear hκ hξ ξ κ
            refine sq ?_
            refine rg [1, 9, 10, 12, 13, 14, 15] [] [] (by kernel_rfl) ?_; intro κ ξ hκ hξ
            try simp (config := { decide := true }) only [go_sem, Nat.reduceMul, Nat.reduceAdd, Nat.reduceBEq, cond_false, c0, hv1, hv2, Bool.and_self, Bool.true_and, if_true, hk, hkl2, hkl3, hkl, hl0, hq, Nat.add_zero, hd0, hm0, hd1, hm1, hd2, hm2, hd3, hm3, hst0, hst1, hst2, hst3, hml, hrw0, hrw1, hrw2, hrw3, hb28, c1, c2, c3, c4]
            repeat with_reducible refine And.intro (by first | assumption | omega | (simp; done) | (simp; omega) | (intro hg; simp (config := { decide := true }) only [go_sem, hg]; done) | (intro hg; simp (config := { decide := true }) only [go_sem, hg]; omega)) ?_
            refine callF (sall_w _ _ _ _) ?_
            try simp (config := { decide := true }) only [go_sem, Nat.reduceMul, Nat.reduceAdd, Nat.reduceBEq, cond_false, c0, hv1, hv2, Bool.and_self, Bool.true_and, if_true, hk, hkl2, hkl3, hkl, hl0, hq, Nat.add_zero, hd0, hm0, hd1, hm1, hd2, hm2, hd3, hm3, hst0, hst1, hst2, hst3, hml, hrw0, hrw1, hrw2, hrw3, hb28, c1, c2, c3, c4]
            repeat with_reducible refine And.intro (by first | assumption | omega | (simp; done) | (simp; omega) | (intro hg; simp (config := { decide := true }) only [go_sem, hg]; done) | (intro hg; simp (config := { decide := true }) only [go_sem, hg]; omega)) ?_
            refine hκ _ _ ?_; clear hκ hξ ξ κ
            refine sq ?_
            refine rg [9, 10, 12, 13, 14, 15, 16, 17] [] [] (by kernel_rfl) ?_; intro κ ξ hκ hξ
            try simp (config := { decide := true }) only [go_sem, Nat.reduceMul, Nat.reduceAdd, Nat.reduceBEq, cond_false, c0, hv1, hv2, Bool.and_self, Bool.true_and, if_true, hk, hkl2, hkl3, hkl, hl0, hq, Nat.add_zero, hd0, hm0, hd1, hm1, hd2, hm2, hd3, hm3, hst0, hst1, hst2, hst3, hml, hrw0, hrw1, hrw2, hrw3, hb28, c1, c2, c3, c4]
            repeat with_reducible refine And.intro (by first | assumption | omega | (simp; done) | (simp; omega) | (intro hg; simp (config := { decide := true }) only [go_sem, hg]; done) | (intro hg; simp (config := { decide := true }) only [go_sem, hg]; omega)) ?_
            refine callF (swt_w _ _) ?_
            try simp (config := { decide := true }) only [go_sem, Nat.reduceMul, Nat.reduceAdd, Nat.reduceBEq, cond_false, c0, hv1, hv2, Bool.and_self, Bool.true_and, if_true, hk, hkl2, hkl3, hkl, hl0, hq, Nat.add_zero, hd0, hm0, hd1, hm1, hd2, hm2, hd3, hm3, hst0, hst1, hst2, hst3, hml, hrw0, hrw1, hrw2, hrw3, hb28, c1, c2, c3, c4]
            repeat with_reducible refine And.intro (by first | assumption | omega | (simp; done) | (simp; omega) | (intro hg; simp (config := { decide := true }) only [go_sem, hg]; done) | (intro hg; simp (config := { decide := true }) only [go_sem, hg]; omega)) ?_
            refine hκ _ _ ?_; clear hκ hξ ξ κ
            refine sq ?_
            refine rg [9, 12, 13, 14, 15, 16, 17, 18, 19] [] [] (by kernel_rfl) ?_; intro κ ξ hκ hξ
            try simp (config := { decide := true }) only [go_sem, Nat.reduceMul, Nat.reduceAdd, Nat.reduceBEq, cond_false, c0, hv1, hv2, Bool.and_self, Bool.true_and, if_true, hk, hkl2, hkl3, hkl, hl0, hq, Nat.add_zero, hd0, hm0, hd1, hm1, hd2, hm2, hd3, hm3, hst0, hst1, hst2, hst3, hml, hrw0, hrw1, hrw2, hrw3, hb28, c1, c2, c3, c4]
            repeat with_reducible refine And.intro (by first | assumption | omega | (simp; done) | (simp; omega) | (intro hg; simp (config := { decide := true }) only [go_sem, hg]; done) | (intro hg; simp (config := { decide := true }) only [go_sem, hg]; omega)) ?_
            refine callF (swt_w _ _) ?_
            try simp (config := { decide := true }) only [go_sem, Nat.reduceMul, Nat.reduceAdd, Nat.reduceBEq, cond_false, c0, hv1, hv2, Bool.and_self, Bool.true_and, if_true, hk, hkl2, hkl3, hkl, hl0, hq, Nat.add_zero, hd0, hm0, hd1, hm1, hd2, hm2, hd3, hm3, hst0, hst1, hst2, hst3, hml, hrw0, hrw1, hrw2, hrw3, hb28, c1, c2, c3, c4]
            repeat with_reducible refine And.intro (by first | assumption | omega | (simp; done) | (simp; omega) | (intro hg; simp (config := { decide := true }) only [go_sem, hg]; done) | (intro hg; simp (config := { decide := true }) only [go_sem, hg]; omega)) ?_
            refine hκ _ _ ?_; clear hκ hξ ξ κ
            refine sq ?_
            refine rg [8] [] [(1, 83), (5, 87), (9, 91), (13, 95), (17, 99), (22, 104), (27, 109)] (by kernel_rfl) ?_; intro κ ξ hκ hξ
            try simp (config := { decide := true }) only [go_sem, Nat.reduceMul, Nat.reduceAdd, Nat.reduceBEq, cond_false, c0, hv1, hv2, Bool.and_self, Bool.true_and, if_true, hk, hkl2, hkl3, hkl, hl0, hq, Nat.add_zero, hd0, hm0, hd1, hm1, hd2, hm2, hd3, hm3, hst0, hst1, hst2, hst3, hml, hrw0, hrw1, hrw2, hrw3, hb28, c1, c2, c3, c4]
            repeat with_reducible refine And.intro (by first | assumption | omega | (simp; done) | (simp; omega) | (intro hg; simp (config := { decide := true }) only [go_sem, hg]; done) | (intro hg; simp (config := { decide := true }) only [go_sem, hg]; omega)) ?_
            refine vo_gc ?_; simp (config := { decide := true }) only [go_sem, c0, hv1, hv2, Bool.and_self, Bool.true_and, if_true, hk, hkl2, hkl3, hkl, hl0, hq, Nat.add_zero, hd0, hm0, hd1, hm1, hd2, hm2, hd3, hm3, hst0, hst1, hst2, hst3, hml, hrw0, hrw1, hrw2, hrw3, hb28, c1, c2, c3, c4]; refine gcallF (fun hg => ⟨by first | rfl | (simp (config := { decide := true }) only [go_sem, hg, c0, hv1, hv2, Bool.and_self, Bool.true_and, if_true, hk, hkl2, hkl3, hkl, hl0, hq, Nat.add_zero, hd0, hm0, hd1, hm1, hd2, hm2, hd3, hm3, hst0, hst1, hst2, hst3, hml, hrw0, hrw1, hrw2, hrw3, hb28, c1, c2, c3, c4]; done) | exact hg | simpa using hg, part_w _ _ _ _⟩) ?_
            try simp (config := { decide := true }) only [go_sem, Nat.reduceMul, Nat.reduceAdd, Nat.reduceBEq, cond_false, c0, hv1, hv2, Bool.and_self, Bool.true_and, if_true, hk, hkl2, hkl3, hkl, hl0, hq, Nat.add_zero, hd0, hm0, hd1, hm1, hd2, hm2, hd3, hm3, hst0, hst1, hst2, hst3, hml, hrw0, hrw1, hrw2, hrw3, hb28, c1, c2, c3, c4]
            repeat with_reducible refine And.intro (by first | assumption | omega | (simp; done) | (simp; omega) | (intro hg; simp (config := { decide := true }) only [go_sem, hg]; done) | (intro hg; simp (config := { decide := true }) only [go_sem, hg]; omega)) ?_
            refine hκ _ _ ?_; clear hκ hξ ξ κ
            refine rt ?_
            refine retE ?_
            simp (config := { decide := true }) only [go_sem, resD, resV, c0, hv1, hv2, Bool.and_self, Bool.true_and, if_true, hk, hkl2, hkl3, hkl, hl0, hq, Nat.add_zero, hd0, hm0, hd1, hm1, hd2, hm2, hd3, hm3, hst0, hst1, hst2, hst3, hml, hrw0, hrw1, hrw2, hrw3, hb28, c1, c2, c3, c4]
            all_goals simp
            exact ⟨⟨hrs3 _, hrx3⟩, hrn3⟩
          · exfalso; simp only [go_sem] at c1 c2 c3 c4; omega

end Go.Proofs.Ytgccnkihonmlbaa

/- The walk of the law of beginnings of selectors. Printed by a tool of our own. -/
import Derived.Test.YtgccnkihonmlbaaSn
namespace Go.Proofs.Ytgccnkihonmlbaa
open Go Go.RowKit
set_option linter.unusedSimpArgs false
set_option linter.unusedVariables false
set_option maxHeartbeats 4000000
set_option maxRecDepth 100000
theorem nappM_of {P : Program} {σ : Store} {ts : Array TypeId} {T U V : TypeId} {g : Bool} {sz by_ sz0 : Nat} {z : List D} {new : List (List D)} {tk : Tok} {K : D → Store → Prop}
    (hT : ts[0]? = some T) (hV : ts[1]? = some V) (hV' : (sle P V).isSome = true) (hs : sle P T = some (U, g, sz)) (hy : eby P T = some by_) (hz : zc P U = some z)
    (hside : (z.length = sz ∧ 0 < sz ∧ 0 < by_) ∧ new.all (·.all D.isCell) = true ∧ new ≠ [] ∧ new.length * by_ ≤ capB)
    (hK : ∀ b c, b ∉ σ.keys → new.length ≤ c → K (.arr b sz new.length c) ((b, .arr sz new c) :: σ)) :
    nappM P σ ts (.sl sz0 [] .full) (.sl sz new tk) K := by
  obtain ⟨⟨hz1, h0, hb0⟩, hc, hne, hfit⟩ := hside
  unfold nappM
  simp only [hT, Option.bind_some, hs, hy, rowsOf]
  refine ⟨⟨⟨z, hz, hz1⟩, ⟨V, hV, .inl hV'⟩, h0, hb0, by simp, hc⟩, ⟨by simp, by simp, by simp, by simpa using hfit⟩, fun e => absurd e hne, fun _ b cap hb hcap => ?_⟩
  simp only [List.length_nil, Nat.zero_add, List.nil_append] at hcap ⊢
  exact hK b cap hb hcap
theorem sel_of {a : List Ts} (h : 0 < a.length ∧ a.length ≤ 8) (hc : (tat a 0).child = false) (hj : ∀ j, j < a.length → tsB (tat a j) = true) : selB a = true := sel_true.2 ⟨h, hc, hj⟩
theorem allP_sub {l : List Nd} {ts rs : List Ts} (h : ∀ i, mtB l ts ts.length i = true → mtB l rs rs.length i = true) (n : Nat) : ∀ x ∈ allP l ts n, x ∈ allP l rs n := by
  intro x hx
  unfold allP at hx ⊢
  obtain ⟨i, hi, rfl⟩ := List.mem_map.1 hx
  obtain ⟨h1, h2⟩ := List.mem_filter.1 hi
  exact List.mem_map.2 ⟨i, List.mem_filter.2 ⟨h1, h i h2⟩, rfl⟩
theorem any_mono {c : List Nat} {ch ch' : Bool} {f g : Nat → Bool} (hc : ch' = true → ch = true) (hf : ∀ x, f x = true → g x = true) (h : (if ch = true then c.take 1 else c).any f = true) : (if ch' = true then c.take 1 else c).any g = true := by
  rw [List.any_eq_true] at h ⊢
  obtain ⟨x, hx, h⟩ := h
  refine ⟨x, ?_, hf x h⟩
  cases e' : ch' with
  | true => rw [if_pos (hc e')] at hx; simpa using hx
  | false =>
    rw [if_neg (by simp)]
    split at hx
    · exact List.mem_of_mem_take hx
    · exact hx
def noC (t : Ts) : Ts := ⟨t.kind, t.cls, t.id, false⟩
theorem trow_all (l : List Ts) : (l.map trow).all (·.all D.isCell) = true := by
  rw [List.all_map, List.all_eq_true]; intro t _; rfl
theorem tat_drop (ts : List Ts) (k j : Nat) : tat (ts.drop k) j = tat ts (k + j) := by
  unfold tat
  simp only [List.getD_eq_getElem?_getD, List.getElem?_drop]
theorem tat_set {ts : List Ts} {k : Nat} {t : Ts} (h : k < ts.length) (j : Nat) : tat (ts.set k t) j = if j = k then t else tat ts j := by
  unfold tat
  simp only [List.getD_eq_getElem?_getD, List.getElem?_set]
  by_cases e : j = k
  · subst e; simp [h]
  · rw [if_neg (fun x => e x.symm), if_neg e]
theorem mtB_rest {l : List Nd} {ts rs : List Ts} {k : Nat} (h0 : ∀ n, fuB n (tat rs 0) = fuB n (tat ts k)) (hj : ∀ j, 0 < j → tat rs j = tat ts (k + j)) : ∀ (m i : Nat), mtB l ts (k + m + 1) i = true → mtB l rs (m + 1) i = true
  | 0, i, h => by
    simp only [mtB, Bool.and_eq_true] at h ⊢
    exact ⟨by rw [h0]; exact h.1, by simp⟩
  | m + 1, i, h => by
    have e : k + (m + 1) + 1 = (k + m + 1) + 1 := by omega
    rw [e] at h
    simp only [mtB, Bool.and_eq_true, Bool.or_eq_true, decide_eq_true_eq] at h ⊢
    have e2 : k + m + 1 = k + (m + 1) := by omega
    obtain ⟨h1, h2⟩ := h
    rw [hj (m + 1) (by omega)]
    refine ⟨by rw [← e2]; exact h1, .inr ?_⟩
    rcases h2 with h2 | h2
    · omega
    · rw [e2] at h2
      exact any_mono (f := mtB l ts (k + (m + 1))) (g := mtB l rs (m + 1)) id (fun x hx => mtB_rest h0 hj m x hx) h2
theorem rest_w {l : List Nd} {ts : List Ts} {k : Nat} (hv : selB ts = true) (hk : k < ts.length) :
    selB ((ts.drop k).set 0 (noC (tat ts k))) = true ∧ ∀ n, ∀ x ∈ allP l ts n, x ∈ allP l ((ts.drop k).set 0 (noC (tat ts k))) n := by
  obtain ⟨⟨h1, h2⟩, h3, h4⟩ := sel_true.1 hv
  have hl : ((ts.drop k).set 0 (noC (tat ts k))).length = ts.length - k := by simp
  have hd : 0 < (ts.drop k).length := by rw [List.length_drop]; omega
  refine ⟨sel_of (by rw [hl]; omega) (by rw [tat_set hd, if_pos rfl]; rfl) fun j hj => ?_, allP_sub fun i h => ?_⟩
  · rw [tat_set hd]
    split
    · exact h4 k hk
    · rw [tat_drop]; exact h4 _ (by omega)
  · rw [hl]
    obtain ⟨m, hm⟩ : ∃ m, ts.length = k + m + 1 := ⟨ts.length - k - 1, by omega⟩
    rw [hm] at h
    have e : ts.length - k = m + 1 := by omega
    rw [e]
    refine mtB_rest (ts := ts) (k := k) (fun n => ?_) (fun j hj => ?_) m i h
    · rw [tat_set hd, if_pos rfl]; rfl
    · rw [tat_set hd, if_neg (by omega), tat_drop]
theorem drop_set {ts : List Ts} {k : Nat} (hk : k < ts.length) : ((ts.drop k).map trow).set 0 (List.take 3 (((ts.drop k).map trow).getD 0 []) ++ [.bool false] ++ List.drop 4 (((ts.drop k).map trow).getD 0 [])) = ((ts.drop k).set 0 (noC (tat ts k))).map trow := by
  have e : ((ts.drop k).map trow).getD 0 [] = trow (tat ts k) := by
    simp only [List.getD_eq_getElem?_getD, List.getElem?_map, List.getElem?_drop, Nat.add_zero]
    simp [tat, List.getD_eq_getElem?_getD, hk]
  rw [e, List.map_set]
  rfl
attribute [local go_sem ↓] vo_nil vK_eq vo_q vo_g vo_n vo_c vd_nil dK_eq eK_eq vd_q vd_g vd_n vd_st vd_c cgs_call cgs_builtin
attribute [local go_sem] Ext_refl Ext_cons
attribute [local go_sem] quiet_move quiet_assign quiet_pick quiet_binOp quiet_unOp quiet_convert quiet_field quiet_fieldAddr quiet_indexAddr quiet_index quiet_load quiet_lookup quiet_extract quiet_build quiet_makeInterface quiet_makeFunc quiet_slice quiet_nilCheck quiet_alloc isCall_alloc quiet_box isCall_box quiet_buildSlice isCall_buildSlice quiet_store isCall_store quiet_range isCall_range quiet_next isCall_next quiet_makeSlice isCall_makeSlice quiet_panic isCall_panic quiet_len quiet_cap quiet_min quiet_max quiet_append isCall_append quiet_copy isCall_copy quiet_delete isCall_delete nqk_alloc nqk_box nqk_buildSlice nqk_range nqk_next nqk_makeSlice nqk_panic nqk_makeMap nqk_entry nqk_append nqk_copy nqk_delete isSt_alloc isSt_box isSt_buildSlice isSt_range isSt_next isSt_makeSlice isSt_panic isSt_makeMap isSt_entry isSt_store isSt_mapUpdate isSt_insert isSt_append isSt_copy isSt_delete quiet_makeMap isCall_makeMap quiet_mapUpdate isCall_mapUpdate quiet_insert isCall_insert
attribute [local go_sem] argEnv qev opd put_some put_none set_at mk_cons mk_nil prune_eq D.ofV ofC_int ofC_nil ofC_str ofC_nilmap ofC_nilfunc ofC_nilptr true_and ofC_bool bop isSh ibop Bool.false_eq_true if_false if_true and_self D.core D.cg qpick isB bof gval look Option.bind_some opc cgs Op.operands List.all_cons List.all_nil Bool.and_true and_true true_imp_iff imp_self false_imp_iff beq_true beq_false beq_iff_eq decide_eq_true_eq List.map_cons List.map_nil Bool.not_eq_true' decide_eq_false_iff_not gof gq gev cond_some Option.isSome_some Bool.or_eq_true Bool.and_eq_true Bool.or_eq_false_iff Bool.and_eq_false_iff Bool.not_eq_true Bool.not_eq_false Bool.not_eq_false' ne_eq implies_true forall_const Bool.cond_true_left Bool.cond_false_right not_false_eq_true not_true_eq_false Int.toNat_natCast Int.toNat_zero
attribute [local go_sem] qbuiltin qlook ments foldI mget mput keqD keyOK lookD_s lookD_n lookD_fs lookD_fn nput agop deqF deq1 nappZ cond_true cond_false Option.getD_some Option.getD_none Option.isSome_none ite_self qindex qslice qconv qextract qfield qfaddr qiaddr qload quop qiface qbuild qnil ldC ldD ob List.drop_succ_cons take_mapr drop_mapr List.drop_zero List.take_succ_cons List.take_zero List.length_cons List.length_nil List.getElem?_cons_zero List.getElem?_cons_succ Option.map_some Option.map_none List.head?_cons
attribute [local go_sem] nev isImm List.contains_cons List.contains_nil Bool.or_false Bool.or_true D.flat D.cellsOf D.isCell Bool.or_self Bool.and_self szOf nstore Store.get Store.upd putCells nk_cons not_or FZ frzE_mk frzL inL frz Store.del or_false boxCells List.headD_cons List.headD_nil List.nil_append List.append_nil List.cons_append List.drop_nil false_and and_false false_or true_or or_true Bool.false_and Bool.true_and Bool.false_or Bool.true_or Bool.and_false setPs lim_eq chunk zrep pls_eq plsF fillD resAll shop sbop bbop decide_true decide_false Bool.not_true Bool.not_false eq_self
attribute [local go_sem] tf0 tf1 tf2 tf3 tf4 tf5 tf6 tf7 tf8 tf9 tf10 tf11 tf12 tf13 tf14 tf15 tf16 tf17 tf18 tf19 tf20 tf21 tf22 tf23 tf24 tf25 tf26 tf27 tf28 tf29 tf30 tf31 tf32 tf33 tf34 tf35 tf36 tf37 tf38 tf39 tf40 tf41 tf42 tf43 tf44 tf45 tf46 tf47 tf48 tf49 tf50 tf51 tf52 tf53 tf54 tf55 tf56 tf57 tf58 tf59 tf60 tf61 tf62 tf63 tf64 tf65 tf66 tf67 tf68 tf69 tf70 tf71 tf72 tf73 tf74 tf75 tf76 tf77 tf78 tf79 tf80 tf81 tf82 tf83 tf84 tf85 tf86 tf87 tf88 tf89 tf90 tf91 tf92 tf93 tf94 tf95 tf96 tf97 tf98 tf99 tf100 tf101 tf102 tf103 tf104 tf105 tf106 tf107 tf108 tf109 tf110 tf111 tf112 tf113 tf114 tf115 tf116 tf117 tf118 tf119 tf120 tf121 tf122 tf123 tf124 tf125 tf126 tf127 tf128 tf129 tf130 tf131 tf132 tf133 tf134 tf135 tf136 tf137 tf138 tf139 tf140 tf141 tf142 tf143 tf144 tf145 tf146 tf147 tf148 tf149 tf150 tf151 tf152 tf153 tf154 tf155 tf156 tf157 tf158 tf159 tf160 tf161 tf162 tf163 tf164 tf165 tf166 tf167 tf168 tf169 tf170 tf171 tf172 tf173 tf174 tf175 tf176 tf177 tf178 tf179 tf180 tf181 tf182 tf183 tf184 tf185 tf186 tf187 tf188 tf189 tf190 tf191 tf192 tf193 tf194 tf195 tf196 tf197 tf198 tf199 tf200 tf201 tf202 tf203 tf204 tf205 tf206 tf207 tf208 tf209 tf210 tf211 tf212 tf213 tf214 tf215 tf216 tf217 tf218 tf219 tf220 tf221 tf222 tf223 tf224 tf225 tf226 tf227 tf228 tf229 tf230 tf231 tf232 tf233 tf234 tf235 tf236 tf237 tf238 tf239 tf240 tf241 tf242 tf243 tf244 tf245 tf246 tf247 tf248 tf249 tf250 tf251 tf252
attribute [local go_sem] List.length_map rowAt_n nrow rowAt_t trow rowAt_i irow
attribute [local go_sem] for_put for_put' for_look for_look'
theorem law6_w (l : List Nd) (ts : List Ts) (which : Int) : PCall Try.prog (.func 6) [.sl 5 (l.map nrow) .no, .sl 4 (ts.map trow) .no, .int .u8 which] (.bool true) := by
  refine PCall.ok fun hok => ?_
  simp only [okAll, D.ok, okRows, and_true, true_and, lim_eq, inR_i64', inR_i32', inR_u8', inR_u16', inR_u64'] at hok
  obtain ⟨-, -, hwh⟩ := hok
  refine PCall.le ?_
  refine fn_ Try.func6 (by rfl) (by rfl) (rs := [.tmp 6]) (by rfl) (by simp [Try.f6]) ?_
  refine sq ?_
  refine rg [0, 1, 2] [] [] (by kernel_rfl) ?_; intro κ ξ hκ hξ
  try simp (config := { decide := true }) only [go_sem, Nat.reduceMul, Nat.reduceAdd, Nat.reduceBEq, cond_false]
  repeat with_reducible refine And.intro (by first | assumption | omega | (simp; done) | (simp; omega) | (intro hg; simp (config := { decide := true }) only [go_sem, hg]; done) | (intro hg; simp (config := { decide := true }) only [go_sem, hg]; omega)) ?_
  refine hκ _ _ ?_; clear hκ hξ ξ κ
  refine sq ?_
  refine rg [0, 1, 2, 7] [] [] (by kernel_rfl) ?_; intro κ ξ hκ hξ
  try simp (config := { decide := true }) only [go_sem, Nat.reduceMul, Nat.reduceAdd, Nat.reduceBEq, cond_false]
  repeat with_reducible refine And.intro (by first | assumption | omega | (simp; done) | (simp; omega) | (intro hg; simp (config := { decide := true }) only [go_sem, hg]; done) | (intro hg; simp (config := { decide := true }) only [go_sem, hg]; omega)) ?_
  refine callF (head_w) ?_
  try simp (config := { decide := true }) only [go_sem, Nat.reduceMul, Nat.reduceAdd, Nat.reduceBEq, cond_false]
  repeat with_reducible refine And.intro (by first | assumption | omega | (simp; done) | (simp; omega) | (intro hg; simp (config := { decide := true }) only [go_sem, hg]; done) | (intro hg; simp (config := { decide := true }) only [go_sem, hg]; omega)) ?_
  refine hκ _ _ ?_; clear hκ hξ ξ κ
  refine sq ?_
  refine sq ?_
  refine rg [0, 1, 2, 7, 17] [] [] (by kernel_rfl) ?_; intro κ ξ hκ hξ
  try simp (config := { decide := true }) only [go_sem, Nat.reduceMul, Nat.reduceAdd, Nat.reduceBEq, cond_false]
  repeat with_reducible refine And.intro (by first | assumption | omega | (simp; done) | (simp; omega) | (intro hg; simp (config := { decide := true }) only [go_sem, hg]; done) | (intro hg; simp (config := { decide := true }) only [go_sem, hg]; omega)) ?_
  refine callF (usable_w _ _ _ _) ?_
  try simp (config := { decide := true }) only [go_sem, Nat.reduceMul, Nat.reduceAdd, Nat.reduceBEq, cond_false]
  repeat with_reducible refine And.intro (by first | assumption | omega | (simp; done) | (simp; omega) | (intro hg; simp (config := { decide := true }) only [go_sem, hg]; done) | (intro hg; simp (config := { decide := true }) only [go_sem, hg]; omega)) ?_
  refine hκ _ _ ?_; clear hκ hξ ξ κ
  refine cd (by rfl) (fun c0 => ?_) (fun c0 => ?_)
  · skip
    refine sq ?_
    refine rg [6] [] [] (by kernel_rfl) ?_; intro κ ξ hκ hξ
    try simp (config := { decide := true }) only [go_sem, Nat.reduceMul, Nat.reduceAdd, Nat.reduceBEq, cond_false, c0]
    repeat with_reducible refine And.intro (by first | assumption | omega | (simp; done) | (simp; omega) | (intro hg; simp (config := { decide := true }) only [go_sem, hg]; done) | (intro hg; simp (config := { decide := true }) only [go_sem, hg]; omega)) ?_
    refine hκ _ _ ?_; clear hκ hξ ξ κ
    refine rt ?_
    refine retE ?_
    simp (config := { decide := true }) only [go_sem, resD, resV, c0]
    all_goals simp
  · obtain ⟨hv1, hv2, hl40, ht20⟩ := usable_true (l := l) (ts := ts) (by revert c0; cases (decide (l.length ≤ 40 ∧ ts.length ≤ 20) && treB l && selB ts) <;> simp)
    have hT := treB_true.1 hv1
    obtain ⟨⟨ht1, ht8⟩, -, -⟩ := sel_true.1 hv2
    obtain ⟨k, hk, hkl⟩ : ∃ k : Nat, (IntKind.wrap .i64 which).tmod (ts.length : Int) = k ∧ k < ts.length := by
      rw [w64 (n := which) (by omega), Int.tmod_eq_emod_of_nonneg hwh.1]
      have h1 := Int.emod_nonneg which (b := (ts.length : Int)) (by omega)
      have h2 := Int.emod_lt_of_pos which (b := (ts.length : Int)) (by omega)
      exact ⟨(which % (ts.length : Int)).toNat, by omega, by omega⟩
    have hkl2 : (k : Int) ≤ (ts.length : Int) := by omega
    have hkl3 : (k : Int) < (ts.length : Int) := by omega
    have hl0 : (ts.length : Int) ≠ 0 := by omega
    obtain ⟨hrw, hrs⟩ := rest_w (l := l) hv2 hkl
    have hds := drop_set hkl
    have hnd : (ts.drop k).map trow ≠ [] := by intro e; have := congrArg List.length e; rw [List.length_map, List.length_drop, List.length_nil] at this; omega
    have hdl : (ts.drop k).length = ts.length - k := List.length_drop ..
    have hdl0 : (0 : Int) < ((ts.drop k).length : Int) := by omega
    have hdl1 : ((0 : Nat) : Int) < ((ts.drop k).length : Int) := by omega
    have hdl2 : 0 < (ts.drop k).length := by omega
    refine sk ?_
    refine sq ?_
    refine rg [0, 1, 7, 8] [27] [] (by kernel_rfl) ?_; intro κ ξ hκ hξ
    try simp (config := { decide := true }) only [go_sem, Nat.reduceMul, Nat.reduceAdd, Nat.reduceBEq, cond_false, c0, hv1, hv2, Bool.and_self, Bool.true_and, if_true, hk, hkl2, hl0, hdl0, hdl1, hdl2, hds, List.take_length, hrw]
    repeat with_reducible refine And.intro (by first | assumption | omega | (simp; done) | (simp; omega) | (intro hg; simp (config := { decide := true }) only [go_sem, hg]; done) | (intro hg; simp (config := { decide := true }) only [go_sem, hg]; omega)) ?_
    refine .inl (nappM_of rfl rfl (by simp (config := { decide := true }) only [go_sem, Option.isSome_some]) tf96 tf97 tf149 (by refine ⟨⟨rfl, by decide, by decide⟩, trow_all _, hnd, ?_⟩; simp [capB] <;> omega) ?_); rw [List.length_map]; intro b27 c27 hb27 hc27
    try simp (config := { decide := true }) only [go_sem, Nat.reduceMul, Nat.reduceAdd, Nat.reduceBEq, cond_false, c0, hv1, hv2, Bool.and_self, Bool.true_and, if_true, hk, hkl2, hl0, hdl0, hdl1, hdl2, hds, List.take_length, hrw, hb27]
    repeat with_reducible refine And.intro (by first | assumption | omega | (simp; done) | (simp; omega) | (intro hg; simp (config := { decide := true }) only [go_sem, hg]; done) | (intro hg; simp (config := { decide := true }) only [go_sem, hg]; omega)) ?_
    refine hκ _ _ ?_; clear hκ hξ ξ κ
    refine sq ?_
    refine rg [0, 1, 7, 8] [] [] (by kernel_rfl) ?_; intro κ ξ hκ hξ
    try simp (config := { decide := true }) only [go_sem, Nat.reduceMul, Nat.reduceAdd, Nat.reduceBEq, cond_false, c0, hv1, hv2, Bool.and_self, Bool.true_and, if_true, hk, hkl2, hl0, hdl0, hdl1, hdl2, hds, List.take_length, hrw, hb27]
    repeat with_reducible refine And.intro (by first | assumption | omega | (simp; done) | (simp; omega) | (intro hg; simp (config := { decide := true }) only [go_sem, hg]; done) | (intro hg; simp (config := { decide := true }) only [go_sem, hg]; omega)) ?_
    refine hκ _ _ ?_; clear hκ hξ ξ κ
    obtain ⟨r2, hr2⟩ : ∃ r2, r2 = (ts.drop k).set 0 (noC (tat ts k)) := ⟨_, rfl⟩
    rw [← hr2] at hrw hrs ⊢
    have hrl : r2.length = (ts.drop k).length := by rw [hr2, List.length_set]
    refine fza b27 [8] [] (sz := 4) (rows := r2.map trow) (cap := c27) (by simp [Store.get]) ?_
    refine weak (mk [(0, .sl 5 (l.map nrow) .no), (1, .sl 4 (ts.map trow) .no), (7, .bool true), (8, .sl 4 (r2.map trow) .no)]) (EnvLe.of_l ⟨rfl, rfl, rfl, ?_, trivial⟩) (List.nil_sublist _) ?_
    · have e1 : (ts.drop k).length ≤ lim := by unfold lim; omega
      have e2 : List.take (ts.drop k).length (r2.map trow) = r2.map trow := by rw [← hrl]; exact List.take_of_length_le (by rw [List.length_map]; exact Nat.le_refl _)
      show fra b27 4 (r2.map trow) (.arr b27 4 (ts.drop k).length c27) = _
      show (if b27 = b27 ∧ 4 = 4 ∧ (ts.drop k).length ≤ (r2.map trow).length ∧ (ts.drop k).length ≤ c27 ∧ (ts.drop k).length ≤ lim then D.sl 4 ((r2.map trow).take (ts.drop k).length) .no else .arr b27 4 (ts.drop k).length c27) = _
      rw [if_pos ⟨rfl, rfl, by rw [List.length_map, hrl]; exact Nat.le_refl _, hc27, e1⟩, e2]
    refine sq ?_
    refine rg [0, 7, 8, 9, 10] [] [] (by kernel_rfl) ?_; intro κ ξ hκ hξ
    try simp (config := { decide := true }) only [go_sem, Nat.reduceMul, Nat.reduceAdd, Nat.reduceBEq, cond_false, c0, hv1, hv2, Bool.and_self, Bool.true_and, if_true, hk, hkl2, hl0, hdl0, hdl1, hdl2, hds, List.take_length, hrw, hb27]
    repeat with_reducible refine And.intro (by first | assumption | omega | (simp; done) | (simp; omega) | (intro hg; simp (config := { decide := true }) only [go_sem, hg]; done) | (intro hg; simp (config := { decide := true }) only [go_sem, hg]; omega)) ?_
    refine callF (sall_w _ _ _ _) ?_
    try simp (config := { decide := true }) only [go_sem, Nat.reduceMul, Nat.reduceAdd, Nat.reduceBEq, cond_false, c0, hv1, hv2, Bool.and_self, Bool.true_and, if_true, hk, hkl2, hl0, hdl0, hdl1, hdl2, hds, List.take_length, hrw, hb27]
    repeat with_reducible refine And.intro (by first | assumption | omega | (simp; done) | (simp; omega) | (intro hg; simp (config := { decide := true }) only [go_sem, hg]; done) | (intro hg; simp (config := { decide := true }) only [go_sem, hg]; omega)) ?_
    refine hκ _ _ ?_; clear hκ hξ ξ κ
    refine sq ?_
    refine rg [7, 9, 10, 11, 12] [] [] (by kernel_rfl) ?_; intro κ ξ hκ hξ
    try simp (config := { decide := true }) only [go_sem, Nat.reduceMul, Nat.reduceAdd, Nat.reduceBEq, cond_false, c0, hv1, hv2, Bool.and_self, Bool.true_and, if_true, hk, hkl2, hl0, hdl0, hdl1, hdl2, hds, List.take_length, hrw, hb27]
    repeat with_reducible refine And.intro (by first | assumption | omega | (simp; done) | (simp; omega) | (intro hg; simp (config := { decide := true }) only [go_sem, hg]; done) | (intro hg; simp (config := { decide := true }) only [go_sem, hg]; omega)) ?_
    refine callF (sall_w _ _ _ _) ?_
    try simp (config := { decide := true }) only [go_sem, Nat.reduceMul, Nat.reduceAdd, Nat.reduceBEq, cond_false, c0, hv1, hv2, Bool.and_self, Bool.true_and, if_true, hk, hkl2, hl0, hdl0, hdl1, hdl2, hds, List.take_length, hrw, hb27]
    repeat with_reducible refine And.intro (by first | assumption | omega | (simp; done) | (simp; omega) | (intro hg; simp (config := { decide := true }) only [go_sem, hg]; done) | (intro hg; simp (config := { decide := true }) only [go_sem, hg]; omega)) ?_
    refine hκ _ _ ?_; clear hκ hξ ξ κ
    refine sq ?_
    refine rg [6] [] [(1, 44), (5, 48), (9, 52)] (by kernel_rfl) ?_; intro κ ξ hκ hξ
    try simp (config := { decide := true }) only [go_sem, Nat.reduceMul, Nat.reduceAdd, Nat.reduceBEq, cond_false, c0, hv1, hv2, Bool.and_self, Bool.true_and, if_true, hk, hkl2, hl0, hdl0, hdl1, hdl2, hds, List.take_length, hrw, hb27]
    repeat with_reducible refine And.intro (by first | assumption | omega | (simp; done) | (simp; omega) | (intro hg; simp (config := { decide := true }) only [go_sem, hg]; done) | (intro hg; simp (config := { decide := true }) only [go_sem, hg]; omega)) ?_
    refine vo_gc ?_; simp (config := { decide := true }) only [go_sem, c0, hv1, hv2, Bool.and_self, Bool.true_and, if_true, hk, hkl2, hl0, hdl0, hdl1, hdl2, hds, List.take_length, hrw, hb27]; refine gcallF (fun hg => ⟨by first | rfl | (simp (config := { decide := true }) only [go_sem, hg, c0, hv1, hv2, Bool.and_self, Bool.true_and, if_true, hk, hkl2, hl0, hdl0, hdl1, hdl2, hds, List.take_length, hrw, hb27]; done) | exact hg | simpa using hg, part_w _ _ _ _⟩) ?_
    try simp (config := { decide := true }) only [go_sem, Nat.reduceMul, Nat.reduceAdd, Nat.reduceBEq, cond_false, c0, hv1, hv2, Bool.and_self, Bool.true_and, if_true, hk, hkl2, hl0, hdl0, hdl1, hdl2, hds, List.take_length, hrw, hb27]
    repeat with_reducible refine And.intro (by first | assumption | omega | (simp; done) | (simp; omega) | (intro hg; simp (config := { decide := true }) only [go_sem, hg]; done) | (intro hg; simp (config := { decide := true }) only [go_sem, hg]; omega)) ?_
    refine hκ _ _ ?_; clear hκ hξ ξ κ
    refine rt ?_
    refine retE ?_
    simp (config := { decide := true }) only [go_sem, resD, resV, c0, hv1, hv2, Bool.and_self, Bool.true_and, if_true, hk, hkl2, hl0, hdl0, hdl1, hdl2, hds, List.take_length, hrw, hb27]
    all_goals simp
    exact hrs _

end Go.Proofs.Ytgccnkihonmlbaa

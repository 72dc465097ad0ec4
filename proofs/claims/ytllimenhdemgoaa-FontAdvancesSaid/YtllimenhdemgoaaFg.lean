/- The walks of Raw. Printed by a tool of our own. -/
import Derived.Test.YtllimenhdemgoaaFf
namespace Go.Proofs.Ytllimenhdemgoaa
open Go Go.RowKit
set_option linter.unusedSimpArgs false
set_option linter.unusedVariables false
set_option maxHeartbeats 4000000
set_option maxRecDepth 100000
def term (gs : List Gl) (ks : List Kn) (p : Int × Int) : Int := (gget gs p.2).2 + kfind ks p.1 p.2
def rawL (gs : List Gl) (ks : List Kn) (ps : List (Int × Int)) : Int := (ps.map (term gs ks)).sum
theorem rawL_take {gs : List Gl} {ks : List Kn} {ps : List (Int × Int)} {i : Nat} {p : Int × Int} (h : ps[i]? = some p) : rawL gs ks (ps.take (i + 1)) = rawL gs ks (ps.take i) + term gs ks p := by
  unfold rawL
  obtain ⟨hi, e⟩ := List.getElem?_eq_some_iff.1 h
  rw [List.take_succ_eq_append_getElem hi, List.map_append, List.sum_append, e]
  simp
theorem kfind_range {gs : List Gl} {ks : List Kn} (hG : ∀ i, i < gs.length → gok gs i) (hK : ∀ i, i < ks.length → kok gs ks i) (a b : Int) : -1000 ≤ kfind ks a b ∧ kfind ks a b ≤ 1000 := by
  by_cases h : ∀ j, j < ks.length → ¬ ((kat ks j).1 = a ∧ (kat ks j).2.1 = b)
  · rw [kfind_none h]; omega
  · rw [← kget_by ks (a, b)]
    unfold kget
    cases hf : ks.find? fun k => decide (k.1 = (a, b).1 ∧ k.2.1 = (a, b).2) with
    | none => decide
    | some k =>
      obtain ⟨j, hj, e⟩ := List.getElem_of_mem (List.mem_of_find?_eq_some hf)
      have := hK j hj
      have hg := gget_range hG (kat ks j).1
      unfold kok at this
      have e2 : kat ks j = k := by simp [kat, hj, e]
      rw [e2] at this hg
      simp only [Option.getD_some]
      omega
theorem term_range {gs : List Gl} {ks : List Kn} (hG : ∀ i, i < gs.length → gok gs i) (hK : ∀ i, i < ks.length → kok gs ks i) (p : Int × Int) : -1000 ≤ term gs ks p ∧ term gs ks p ≤ 2000 := by
  have h1 := gget_range hG p.2
  have h2 := kfind_range hG hK p.1 p.2
  unfold term; omega
theorem rawL_range {gs : List Gl} {ks : List Kn} (hG : ∀ i, i < gs.length → gok gs i) (hK : ∀ i, i < ks.length → kok gs ks i) : ∀ ps : List (Int × Int), -1000 * (ps.length : Int) ≤ rawL gs ks ps ∧ rawL gs ks ps ≤ 2000 * (ps.length : Int)
  | [] => by simp [rawL]
  | p :: ps => by
    have h1 := rawL_range hG hK ps
    have h2 := term_range hG hK p
    unfold rawL at h1 ⊢
    simp only [List.map_cons, List.sum_cons, List.length_cons]
    omega
theorem prsL_get {l : List UInt8} {i : Nat} {x : List D} (h : (prsL l)[i]? = some x) : ∃ p, (prs 0 l)[i]? = some p ∧ x = [.ag (prow p)] := by
  unfold prsL at h
  rw [List.getElem?_map] at h
  cases e : (prs 0 l)[i]? with
  | none => rw [e] at h; cases h
  | some p => rw [e] at h; cases h; exact ⟨p, rfl, rfl⟩
noncomputable def rawErr (gs : List Gl) (ks : List Kn) (s : List UInt8) : Int := if (fok gs ks && tv s) = true then (if hasB gs s = true then 0 else 20) else 1
noncomputable def rawVal (gs : List Gl) (ks : List Kn) (s : List UInt8) : Int := if (fok gs ks && tv s && hasB gs s) = true then rawL gs ks (prs 0 (shown s)) else 0
attribute [local go_sem ↓] vo_nil vK_eq vo_q vo_g vo_n vo_c vd_nil dK_eq eK_eq vd_q vd_g vd_n vd_st vd_c cgs_call cgs_builtin
attribute [local go_sem] Ext_refl Ext_cons
attribute [local go_sem] quiet_move quiet_assign quiet_pick quiet_binOp quiet_unOp quiet_convert quiet_field quiet_fieldAddr quiet_indexAddr quiet_index quiet_load quiet_lookup quiet_extract quiet_build quiet_makeInterface quiet_makeFunc quiet_slice quiet_nilCheck quiet_alloc isCall_alloc quiet_box isCall_box quiet_buildSlice isCall_buildSlice quiet_store isCall_store quiet_range isCall_range quiet_next isCall_next quiet_makeSlice isCall_makeSlice quiet_panic isCall_panic quiet_len quiet_cap quiet_min quiet_max quiet_append isCall_append quiet_copy isCall_copy quiet_delete isCall_delete nqk_alloc nqk_box nqk_buildSlice nqk_range nqk_next nqk_makeSlice nqk_panic nqk_makeMap nqk_entry nqk_append nqk_copy nqk_delete isSt_alloc isSt_box isSt_buildSlice isSt_range isSt_next isSt_makeSlice isSt_panic isSt_makeMap isSt_entry isSt_store isSt_mapUpdate isSt_insert isSt_append isSt_copy isSt_delete quiet_makeMap isCall_makeMap quiet_mapUpdate isCall_mapUpdate quiet_insert isCall_insert
attribute [local go_sem] argEnv qev opd put_some put_none set_at mk_cons mk_nil prune_eq D.ofV ofC_int ofC_str true_and ofC_bool bop isSh ibop Bool.false_eq_true if_false if_true and_self D.core D.cg qpick isB bof gval look Option.bind_some opc cgs Op.operands List.all_cons List.all_nil Bool.and_true and_true true_imp_iff imp_self false_imp_iff beq_true beq_false beq_iff_eq decide_eq_true_eq List.map_cons List.map_nil Bool.not_eq_true' decide_eq_false_iff_not gof gq gev cond_some Option.isSome_some Bool.or_eq_true Bool.and_eq_true Bool.or_eq_false_iff Bool.and_eq_false_iff Bool.not_eq_true Bool.not_eq_false Bool.not_eq_false' ne_eq implies_true forall_const Bool.cond_true_left Bool.cond_false_right not_false_eq_true not_true_eq_false Int.toNat_natCast Int.toNat_zero
attribute [local go_sem] qbuiltin qlook ments foldI mget mput keqD keyOK lookD nput agop deqF deq1 nappZ cond_true cond_false Option.getD_some Option.getD_none Option.isSome_none ite_self qindex qslice qconv qextract qfield qfaddr qiaddr qload quop qiface qbuild qnil ldC ldD ob List.drop_succ_cons List.drop_zero List.take_succ_cons List.take_zero List.length_cons List.length_nil List.getElem?_cons_zero List.getElem?_cons_succ Option.map_some Option.map_none List.head?_cons
attribute [local go_sem] nev isImm List.contains_cons List.contains_nil Bool.or_false Bool.or_true D.flat D.cellsOf D.isCell Bool.or_self Bool.and_self szOf nstore Store.get Store.upd putCells nk_cons not_or FZ frzE_mk frzL inL frz Store.del or_false boxCells List.headD_cons List.headD_nil List.nil_append List.append_nil List.cons_append List.drop_nil false_and and_false false_or true_or or_true Bool.false_and Bool.true_and Bool.false_or Bool.true_or Bool.and_false setPs lim_eq chunk zrep pls_eq plsF fillD resAll shop sbop bbop decide_true decide_false Bool.not_true Bool.not_false eq_self
attribute [local go_sem] tf0 tf1 tf2 tf3 tf4 tf5 tf6 tf7 tf8 tf9 tf10 tf11 tf12 tf13 tf14 tf15 tf16 tf17 tf18 tf19 tf20 tf21 tf22 tf23 tf24 tf25 tf26 tf27 tf28 tf29 tf30 tf31 tf32 tf33 tf34 tf35 tf36 tf37 tf38 tf39 tf40 tf41 tf42 tf43 tf44 tf45 tf46 tf47 tf48 tf49 tf50 tf51 tf52 tf53 tf54 tf55 tf56 tf57 tf58 tf59 tf60 tf61 tf62 tf63 tf64 tf65 tf66 tf67 tf68 tf69 tf70 tf71 tf72 tf73 tf74 tf75 tf76 tf77 tf78 tf79 tf80 tf81 tf82 tf83 tf84 tf85 tf86 tf87 tf88 tf89 tf90 tf91 tf92 tf93 tf94 tf95 tf96 tf97 tf98 tf99 tf100 tf101 tf102 tf103 tf104 tf105 tf106 tf107 tf108 tf109 tf110 tf111 tf112 tf113 tf114 tf115 tf116 tf117 tf118 tf119 tf120 tf121 tf122 tf123 tf124 tf125 tf126 tf127 tf128 tf129 tf130 tf131 tf132 tf133 tf134 tf135 tf136 tf137 tf138 tf139 tf140 tf141 tf142 tf143 tf144 tf145 tf146 tf147 tf148 tf149 tf150 tf151 tf152 tf153 tf154 tf155 tf156 tf157 tf158 tf159 tf160 tf161 tf162 tf163 tf164 tf165 tf166 tf167 tf168 tf169 tf170 tf171 tf172 tf173 tf174 tf175 tf176 tf177 tf178 tf179 tf180 tf181 tf182 tf183 tf184 tf185 tf186 tf187 tf188 tf189 tf190 tf191 tf192 tf193 tf194 tf195 tf196 tf197 tf198 tf199 tf200 tf201 tf202 tf203
attribute [local go_sem] List.length_map rowAt_g rowAt_k grow krow rowAt_i irow prow rowAt_b brow
theorem raw_w (gs : List Gl) (ks : List Kn) (tg tk : Tok) (s : List UInt8) : PCall Try.prog (.func 15) [.ag [.sl 2 (gs.map grow) tg, .sl 3 (ks.map krow) tk], .str s] (.tup [.int .i64 (rawVal gs ks s), .int .i64 (rawErr gs ks s)]) := by
  refine PCall.ok fun hok => ?_
  simp only [okAll, D.ok, okRows, and_true, true_and, lim_eq, inR_i64', inR_i32', inR_u8', inR_u16', inR_u64'] at hok
  obtain ⟨⟨⟨hg, hgr⟩, hk, hkr⟩, hs0⟩ := hok; rw [List.length_map] at hg hk
  refine PCall.le ?_
  refine fn_ Try.func15 (by rfl) (by rfl) (rs := [.tmp 4, .tmp 5]) (by rfl) (by simp [Try.f15]) ?_
  refine sq ?_
  refine rg [1, 2] [2] [] (by kernel_rfl) ?_; intro κ ξ hκ hξ
  try simp (config := { decide := true }) only [go_sem, Nat.reduceMul, Nat.reduceAdd]
  repeat with_reducible refine And.intro (by first | assumption | omega | (simp; done) | (simp; omega) | (intro hg; simp (config := { decide := true }) only [go_sem, hg]; done) | (intro hg; simp (config := { decide := true }) only [go_sem, hg]; omega)) ?_
  refine hκ _ _ ?_; clear hκ hξ ξ κ
  refine sq ?_
  refine rg [1, 2, 6, 7] [] [] (by kernel_rfl) ?_; intro κ ξ hκ hξ
  try simp (config := { decide := true }) only [go_sem, Nat.reduceMul, Nat.reduceAdd]
  repeat with_reducible refine And.intro (by first | assumption | omega | (simp; done) | (simp; omega) | (intro hg; simp (config := { decide := true }) only [go_sem, hg]; done) | (intro hg; simp (config := { decide := true }) only [go_sem, hg]; omega)) ?_
  refine callF (has_w _ _ _ _ _) ?_
  try simp (config := { decide := true }) only [go_sem, Nat.reduceMul, Nat.reduceAdd]
  repeat with_reducible refine And.intro (by first | assumption | omega | (simp; done) | (simp; omega) | (intro hg; simp (config := { decide := true }) only [go_sem, hg]; done) | (intro hg; simp (config := { decide := true }) only [go_sem, hg]; omega)) ?_
  refine hκ _ _ ?_; clear hκ hξ ξ κ
  refine sq ?_
  refine bl ?_
  refine sq ?_
  refine rg [1, 2, 6, 7, 20] [] [] (by kernel_rfl) ?_; intro κ ξ hκ hξ
  try simp (config := { decide := true }) only [go_sem, Nat.reduceMul, Nat.reduceAdd]
  repeat with_reducible refine And.intro (by first | assumption | omega | (simp; done) | (simp; omega) | (intro hg; simp (config := { decide := true }) only [go_sem, hg]; done) | (intro hg; simp (config := { decide := true }) only [go_sem, hg]; omega)) ?_
  refine hκ _ _ ?_; clear hκ hξ ξ κ
  refine cd (by rfl) (fun c0 => ?_) (fun c0 => ?_)
  · simp only [go_sem] at c0
    refine sq ?_
    refine rg [4, 5] [] [] (by kernel_rfl) ?_; intro κ ξ hκ hξ
    try simp (config := { decide := true }) only [go_sem, Nat.reduceMul, Nat.reduceAdd, c0]
    repeat with_reducible refine And.intro (by first | assumption | omega | (simp; done) | (simp; omega) | (intro hg; simp (config := { decide := true }) only [go_sem, hg]; done) | (intro hg; simp (config := { decide := true }) only [go_sem, hg]; omega)) ?_
    refine hκ _ _ ?_; clear hκ hξ ξ κ
    refine rt ?_
    refine retE ?_
    simp (config := { decide := true }) only [go_sem, resD, resV, c0]
    all_goals (revert c0; unfold rawVal rawErr; cases h1 : fok gs ks <;> cases h2 : tv s <;> simp)
  · simp only [go_sem] at c0
    refine sq ?_
    refine rg [1, 2, 24] [] [] (by kernel_rfl) ?_; intro κ ξ hκ hξ
    try simp (config := { decide := true }) only [go_sem, Nat.reduceMul, Nat.reduceAdd, c0]
    repeat with_reducible refine And.intro (by first | assumption | omega | (simp; done) | (simp; omega) | (intro hg; simp (config := { decide := true }) only [go_sem, hg]; done) | (intro hg; simp (config := { decide := true }) only [go_sem, hg]; omega)) ?_
    refine hκ _ _ ?_; clear hκ hξ ξ κ
    refine cd (by rfl) (fun c1 => ?_) (fun c1 => ?_)
    · simp only [go_sem] at c1
      refine sq ?_
      refine rg [4, 5] [] [] (by kernel_rfl) ?_; intro κ ξ hκ hξ
      try simp (config := { decide := true }) only [go_sem, Nat.reduceMul, Nat.reduceAdd, c0, c1]
      repeat with_reducible refine And.intro (by first | assumption | omega | (simp; done) | (simp; omega) | (intro hg; simp (config := { decide := true }) only [go_sem, hg]; done) | (intro hg; simp (config := { decide := true }) only [go_sem, hg]; omega)) ?_
      refine hκ _ _ ?_; clear hκ hξ ξ κ
      refine rt ?_
      refine retE ?_
      simp (config := { decide := true }) only [go_sem, resD, resV, c0, c1]
      all_goals (revert c0 c1; unfold rawVal rawErr; cases h1 : fok gs ks <;> cases h2 : tv s <;> cases h3 : hasB gs s <;> simp)
    · simp only [go_sem] at c1
      have hfok := c1.1.1
      have htv := c1.1.2
      have hhas := c1.2
      have htl := tv_len htv
      have hsl := shown_len s
      have hG := (fok_true.1 hfok).2.1
      have hK := (fok_true.1 hfok).2.2
      have hs := fok_sorted hG
      have hks := fok_ksorted hK
      have hn : gs.length ≤ 1000 := by have := (fok_true.1 hfok).1.1; omega
      have hnk : ks.length ≤ 1000 := by have := (fok_true.1 hfok).1.2; omega
      refine sk ?_
      refine sq ?_
      refine rg [1, 2, 8] [] [] (by kernel_rfl) ?_; intro κ ξ hκ hξ
      try simp (config := { decide := true }) only [go_sem, Nat.reduceMul, Nat.reduceAdd, c0, c1]
      repeat with_reducible refine And.intro (by first | assumption | omega | (simp; done) | (simp; omega) | (intro hg; simp (config := { decide := true }) only [go_sem, hg]; done) | (intro hg; simp (config := { decide := true }) only [go_sem, hg]; omega)) ?_
      intro b8 hb8
      try simp (config := { decide := true }) only [go_sem, Nat.reduceMul, Nat.reduceAdd, c0, c1, hb8]
      repeat with_reducible refine And.intro (by first | assumption | omega | (simp; done) | (simp; omega) | (intro hg; simp (config := { decide := true }) only [go_sem, hg]; done) | (intro hg; simp (config := { decide := true }) only [go_sem, hg]; omega)) ?_
      refine hκ _ _ ?_; clear hκ hξ ξ κ
      refine sq ?_
      refine sq ?_
      refine rg [2, 8, 28] [] [] (by kernel_rfl) ?_; intro κ ξ hκ hξ
      try simp (config := { decide := true }) only [go_sem, Nat.reduceMul, Nat.reduceAdd, c0, c1, hb8]
      repeat with_reducible refine And.intro (by first | assumption | omega | (simp; done) | (simp; omega) | (intro hg; simp (config := { decide := true }) only [go_sem, hg]; done) | (intro hg; simp (config := { decide := true }) only [go_sem, hg]; omega)) ?_
      refine callF (pairs_w _) ?_
      try simp (config := { decide := true }) only [go_sem, Nat.reduceMul, Nat.reduceAdd, c0, c1, hb8]
      repeat with_reducible refine And.intro (by first | assumption | omega | (simp; done) | (simp; omega) | (intro hg; simp (config := { decide := true }) only [go_sem, hg]; done) | (intro hg; simp (config := { decide := true }) only [go_sem, hg]; omega)) ?_
      refine hκ _ _ ?_; clear hκ hξ ξ κ
      refine bl ?_
      refine rf (ps := [29]) (fun i τ => τ = [(b8, .cells [.int .i64 (rawL gs ks ((prs 0 (shown s)).take i))])]) (fun _ _ => False) (by rfl) Try.func37 (by rfl) (by rfl) (pairs1_w s htv) (by intro p hp; simp at hp; subst hp; decide) (fun x hx => by simp only [prsL, List.mem_map] at hx; obtain ⟨p, _, rfl⟩ := hx; rfl) (by rfl) ?_ ?_ (fun _ _ h => h.elim)
      · intro L i x hx τ hτ
        subst hτ
        obtain ⟨p, hp, rfl⟩ := prsL_get hx
        have hrl := rawL_range hG hK ((prs 0 (shown s)).take i)
        have hpl := List.length_take_le i (prs 0 (shown s))
        have hil := (List.getElem?_eq_some_iff.1 hp).1
        rw [prs_length] at hil
        have htr := term_range hG hK p
        have hkb := kget_by ks p
        have hk2 := kfind_range hG hK p.1 p.2
        have hg2 := gget_range hG p.2
        refine rgz [(9, [])] [2, 8, 9] [] [] (by kernel_rfl) ?_; intro κ ξ hκ hξ
        try simp (config := { decide := true }) only [go_sem, Nat.reduceMul, Nat.reduceAdd, c0, c1, hb8, hkb]
        repeat with_reducible refine And.intro (by first | assumption | omega | (simp; done) | (simp; omega) | (intro hg; simp (config := { decide := true }) only [go_sem, hg]; done) | (intro hg; simp (config := { decide := true }) only [go_sem, hg]; omega)) ?_
        intro b9 hb9
        try simp (config := { decide := true }) only [go_sem, Nat.reduceMul, Nat.reduceAdd, c0, c1, hb8, hkb, hb9]
        repeat with_reducible refine And.intro (by first | assumption | omega | (simp; done) | (simp; omega) | (intro hg; simp (config := { decide := true }) only [go_sem, hg]; done) | (intro hg; simp (config := { decide := true }) only [go_sem, hg]; omega)) ?_
        refine hκ _ _ ⟨rfl, ?_⟩; clear hκ hξ ξ κ
        refine bl ?_
        refine sq ?_
        refine rgz [(10, [])] [2, 8, 9, 10] [] [] (by kernel_rfl) ?_; intro κ ξ hκ hξ
        try simp (config := { decide := true }) only [go_sem, Nat.reduceMul, Nat.reduceAdd, c0, c1, hb8, hkb, hb9]
        repeat with_reducible refine And.intro (by first | assumption | omega | (simp; done) | (simp; omega) | (intro hg; simp (config := { decide := true }) only [go_sem, hg]; done) | (intro hg; simp (config := { decide := true }) only [go_sem, hg]; omega)) ?_
        refine callF (glyph_s hn hs) ?_
        try simp (config := { decide := true }) only [go_sem, Nat.reduceMul, Nat.reduceAdd, c0, c1, hb8, hkb, hb9]
        repeat with_reducible refine And.intro (by first | assumption | omega | (simp; done) | (simp; omega) | (intro hg; simp (config := { decide := true }) only [go_sem, hg]; done) | (intro hg; simp (config := { decide := true }) only [go_sem, hg]; omega)) ?_
        intro b10 hb10
        try simp (config := { decide := true }) only [go_sem, Nat.reduceMul, Nat.reduceAdd, c0, c1, hb8, hkb, hb9, hb10]
        repeat with_reducible refine And.intro (by first | assumption | omega | (simp; done) | (simp; omega) | (intro hg; simp (config := { decide := true }) only [go_sem, hg]; done) | (intro hg; simp (config := { decide := true }) only [go_sem, hg]; omega)) ?_
        refine hκ _ _ ?_; clear hκ hξ ξ κ
        refine sq ?_
        refine rgz [(12, [])] [2, 8, 10, 12] [] [] (by kernel_rfl) ?_; intro κ ξ hκ hξ
        try simp (config := { decide := true }) only [go_sem, Nat.reduceMul, Nat.reduceAdd, c0, c1, hb8, hkb, hb9, hb10]
        repeat with_reducible refine And.intro (by first | assumption | omega | (simp; done) | (simp; omega) | (intro hg; simp (config := { decide := true }) only [go_sem, hg]; done) | (intro hg; simp (config := { decide := true }) only [go_sem, hg]; omega)) ?_
        refine callF ((findk_s hnk hks).choose_spec) ?_
        try simp (config := { decide := true }) only [go_sem, Nat.reduceMul, Nat.reduceAdd, c0, c1, hb8, hkb, hb9, hb10]
        repeat with_reducible refine And.intro (by first | assumption | omega | (simp; done) | (simp; omega) | (intro hg; simp (config := { decide := true }) only [go_sem, hg]; done) | (intro hg; simp (config := { decide := true }) only [go_sem, hg]; omega)) ?_
        intro b12 hb12
        try simp (config := { decide := true }) only [go_sem, Nat.reduceMul, Nat.reduceAdd, c0, c1, hb8, hkb, hb9, hb10, hb12]
        repeat with_reducible refine And.intro (by first | assumption | omega | (simp; done) | (simp; omega) | (intro hg; simp (config := { decide := true }) only [go_sem, hg]; done) | (intro hg; simp (config := { decide := true }) only [go_sem, hg]; omega)) ?_
        refine hκ _ _ ?_; clear hκ hξ ξ κ
        refine rg [2, 8] [] [] (by kernel_rfl) ?_; intro κ ξ hκ hξ
        try simp (config := { decide := true }) only [go_sem, Nat.reduceMul, Nat.reduceAdd, c0, c1, hb8, hkb, hb9, hb10, hb12]
        repeat with_reducible refine And.intro (by first | assumption | omega | (simp; done) | (simp; omega) | (intro hg; simp (config := { decide := true }) only [go_sem, hg]; done) | (intro hg; simp (config := { decide := true }) only [go_sem, hg]; omega)) ?_
        refine hκ _ _ ?_; clear hκ hξ ξ κ
        show _ = _
        rw [rawL_take hp]
        unfold term
        congr 4
        rw [w64 (n := (gget gs p.2).2 + kfind ks p.1 p.2) (by omega), w64 (by omega)]
      · rintro τ rfl
        rw [prsL_length, List.take_of_length_le (by rw [prs_length]; exact Nat.le_refl _)]
        refine sq ?_
        refine rg [4, 5] [] [] (by kernel_rfl) ?_; intro κ ξ hκ hξ
        try simp (config := { decide := true }) only [go_sem, Nat.reduceMul, Nat.reduceAdd, c0, c1, hb8]
        repeat with_reducible refine And.intro (by first | assumption | omega | (simp; done) | (simp; omega) | (intro hg; simp (config := { decide := true }) only [go_sem, hg]; done) | (intro hg; simp (config := { decide := true }) only [go_sem, hg]; omega)) ?_
        refine hκ _ _ ?_; clear hκ hξ ξ κ
        refine rt ?_
        refine retE ?_
        simp (config := { decide := true }) only [go_sem, resD, resV, c0, c1, hb8]
        all_goals simp [rawVal, rawErr, hfok, htv, hhas]

end Go.Proofs.Ytllimenhdemgoaa

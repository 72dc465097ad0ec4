/- The walk of the fifth law. Printed by a tool of our own. -/
import Derived.Test.YtllimenhdemgoaaFs
import Derived.Test.YtllimenhdemgoaaAo
namespace Go.Proofs.Ytllimenhdemgoaa
open Go Go.RowKit
set_option linter.unusedSimpArgs false
set_option linter.unusedVariables false
set_option maxHeartbeats 4000000
set_option maxRecDepth 100000

theorem fraE_nil (b sz : Nat) (rows : List (List D)) (env : Env) : fraE [] b sz rows env = env := rfl
theorem grow_drop : ∀ {gs : List Gl} {i : Nat}, i < gs.length → List.drop (i * 2 + 1) (gs.map grow).flatten = .int .i64 (gat gs i).2 :: ((gs.drop (i + 1)).map grow).flatten
  | [], _, h => by simp at h
  | g :: gs, 0, _ => by simp [gat, grow]
  | g :: gs, i + 1, h => by
    have := grow_drop (gs := gs) (i := i) (by simpa using h)
    have e : (i + 1) * 2 + 1 = (i * 2 + 1) + 2 := by omega
    rw [e]
    simp only [List.map_cons, List.flatten_cons, grow, List.cons_append, List.nil_append, List.drop_succ_cons]
    simpa [gat] using this
theorem grow_set {gs : List Gl} {i : Nat} (v : Int) (h : i < gs.length) : (gs.map grow).set i (List.take 1 ((gs.map grow).getD i []) ++ [.int .i64 v] ++ List.drop 2 ((gs.map grow).getD i [])) = (gs.set i ((gat gs i).1, v)).map grow := by
  have e : (gs.map grow).getD i [] = grow (gat gs i) := by simp [gat, List.getD_eq_getElem?_getD, h]
  rw [e, List.map_set]
  rfl

theorem nappM_of {P : Program} {σ : Store} {ts : Array TypeId} {T U V : TypeId} {g : Bool} {sz by_ sz0 : Nat} {z : List D} {new : List (List D)} {tk : Tok} {K : D → Store → Prop}
    (hT : ts[0]? = some T) (hV : ts[1]? = some V) (hV' : (sle P V).isSome = true) (hs : sle P T = some (U, g, sz)) (hy : eby P T = some by_) (hz : zc P U = some z)
    (hside : (z.length = sz ∧ 0 < sz ∧ 0 < by_) ∧ new.all (·.all D.isCell) = true ∧ new ≠ [] ∧ new.length * by_ ≤ capB)
    (hK : ∀ b c, b ∉ σ.keys → new.length ≤ c → K (.arr b sz new.length c) ((b, .arr sz new c) :: σ)) :
    nappM P σ ts (.sl sz0 [] .full) (.sl sz new tk) K := by
  obtain ⟨⟨hz1, h0, hb0⟩, hc, hne, hfit⟩ := hside
  unfold nappM
  simp only [hT, Option.bind_some, hs, hy, rowsOf]
  refine ⟨⟨⟨z, hz, hz1⟩, ⟨V, hV, .inl hV'⟩, h0, hb0, by simp, hc⟩, ⟨by simp, by simp, by simp, by simpa using hfit⟩, fun e => absurd e hne, fun _ b cap hb hcap => ?_⟩
  simp only [List.length_nil, Nat.zero_add, List.nil_append] at hcap ⊢
  exact hK b cap hb hcap
theorem raw_nil (gs : List Gl) (tg : Tok) (s : List UInt8) : PCall Try.prog (.func 15) [.ag [.sl 2 (gs.map grow) tg, .sl 0 [] .nil], .str s] (.tup [.int .i64 (rawVal gs [] s), .int .i64 (rawErr gs [] s)]) := by
  intro M w vs hc hr
  refine raw_w gs [] tg .nil s M w vs hc ?_
  match vs, hr with
  | [a, b], hr =>
    simp only [RAll, R] at hr ⊢
    obtain ⟨⟨us, rfl, hus⟩, hs⟩ := hr
    match us, hus with
    | [x, y], hus =>
      simp only [RAll, R, List.map_nil] at hus ⊢
      exact ⟨⟨_, rfl, hus.1, hus.2.1, trivial⟩, hs⟩
attribute [local go_sem ↓] vo_nil vK_eq vo_q vo_g vo_n vo_c vd_nil dK_eq eK_eq vd_q vd_g vd_n vd_st vd_c cgs_call cgs_builtin
attribute [local go_sem] Ext_refl Ext_cons
attribute [local go_sem] quiet_move quiet_assign quiet_pick quiet_binOp quiet_unOp quiet_convert quiet_field quiet_fieldAddr quiet_indexAddr quiet_index quiet_load quiet_lookup quiet_extract quiet_build quiet_makeInterface quiet_makeFunc quiet_slice quiet_nilCheck quiet_alloc isCall_alloc quiet_box isCall_box quiet_buildSlice isCall_buildSlice quiet_store isCall_store quiet_range isCall_range quiet_next isCall_next quiet_makeSlice isCall_makeSlice quiet_panic isCall_panic quiet_len quiet_cap quiet_min quiet_max quiet_append isCall_append quiet_copy isCall_copy quiet_delete isCall_delete nqk_alloc nqk_box nqk_buildSlice nqk_range nqk_next nqk_makeSlice nqk_panic nqk_makeMap nqk_entry nqk_append nqk_copy nqk_delete isSt_alloc isSt_box isSt_buildSlice isSt_range isSt_next isSt_makeSlice isSt_panic isSt_makeMap isSt_entry isSt_store isSt_mapUpdate isSt_insert isSt_append isSt_copy isSt_delete quiet_makeMap isCall_makeMap quiet_mapUpdate isCall_mapUpdate quiet_insert isCall_insert
attribute [local go_sem] argEnv qev opd put_some put_none set_at mk_cons mk_nil prune_eq D.ofV ofC_int ofC_nil ofC_str ofC_nilmap ofC_nilfunc ofC_nilptr true_and ofC_bool bop isSh ibop Bool.false_eq_true if_false if_true and_self D.core D.cg qpick isB bof gval look Option.bind_some opc cgs Op.operands List.all_cons List.all_nil Bool.and_true and_true true_imp_iff imp_self false_imp_iff beq_true beq_false beq_iff_eq decide_eq_true_eq List.map_cons List.map_nil Bool.not_eq_true' decide_eq_false_iff_not gof gq gev cond_some Option.isSome_some Bool.or_eq_true Bool.and_eq_true Bool.or_eq_false_iff Bool.and_eq_false_iff Bool.not_eq_true Bool.not_eq_false Bool.not_eq_false' ne_eq implies_true forall_const Bool.cond_true_left Bool.cond_false_right not_false_eq_true not_true_eq_false Int.toNat_natCast Int.toNat_zero
attribute [local go_sem] qbuiltin qlook ments foldI mget mput keqD keyOK lookD_s lookD_n lookD_fs lookD_fn nput agop deqF deq1 nappZ cond_true cond_false Option.getD_some Option.getD_none Option.isSome_none ite_self qindex qslice qconv qextract qfield qfaddr qiaddr qload quop qiface qbuild qnil ldC ldD ob List.drop_succ_cons take_mapr drop_mapr List.drop_zero List.take_succ_cons List.take_zero List.length_cons List.length_nil List.getElem?_cons_zero List.getElem?_cons_succ Option.map_some Option.map_none List.head?_cons
attribute [local go_sem] nev isImm List.contains_cons List.contains_nil Bool.or_false Bool.or_true D.flat D.cellsOf D.isCell Bool.or_self Bool.and_self szOf nstore Store.get Store.upd putCells nk_cons not_or FZ frzE_mk frzL inL frz Store.del or_false boxCells List.headD_cons List.headD_nil List.nil_append List.append_nil List.cons_append List.drop_nil false_and and_false false_or true_or or_true Bool.false_and Bool.true_and Bool.false_or Bool.true_or Bool.and_false setPs lim_eq chunk zrep pls_eq plsF fillD resAll shop sbop bbop decide_true decide_false Bool.not_true Bool.not_false eq_self
attribute [local go_sem] tf0 tf1 tf2 tf3 tf4 tf5 tf6 tf7 tf8 tf9 tf10 tf11 tf12 tf13 tf14 tf15 tf16 tf17 tf18 tf19 tf20 tf21 tf22 tf23 tf24 tf25 tf26 tf27 tf28 tf29 tf30 tf31 tf32 tf33 tf34 tf35 tf36 tf37 tf38 tf39 tf40 tf41 tf42 tf43 tf44 tf45 tf46 tf47 tf48 tf49 tf50 tf51 tf52 tf53 tf54 tf55 tf56 tf57 tf58 tf59 tf60 tf61 tf62 tf63 tf64 tf65 tf66 tf67 tf68 tf69 tf70 tf71 tf72 tf73 tf74 tf75 tf76 tf77 tf78 tf79 tf80 tf81 tf82 tf83 tf84 tf85 tf86 tf87 tf88 tf89 tf90 tf91 tf92 tf93 tf94 tf95 tf96 tf97 tf98 tf99 tf100 tf101 tf102 tf103 tf104 tf105 tf106 tf107 tf108 tf109 tf110 tf111 tf112 tf113 tf114 tf115 tf116 tf117 tf118 tf119 tf120 tf121 tf122 tf123 tf124 tf125 tf126 tf127 tf128 tf129 tf130 tf131 tf132 tf133 tf134 tf135 tf136 tf137 tf138 tf139 tf140 tf141 tf142 tf143 tf144 tf145 tf146 tf147 tf148 tf149 tf150 tf151 tf152 tf153 tf154 tf155 tf156 tf157 tf158 tf159 tf160 tf161 tf162 tf163 tf164 tf165 tf166 tf167 tf168 tf169 tf170 tf171 tf172 tf173 tf174 tf175 tf176 tf177 tf178 tf179 tf180 tf181 tf182 tf183 tf184 tf185 tf186 tf187 tf188 tf189 tf190 tf191 tf192 tf193 tf194 tf195 tf196 tf197 tf198 tf199 tf200 tf201 tf202 tf203
attribute [local go_sem] List.length_map rowAt_g rowAt_k grow krow rowAt_i irow prow rowAt_b brow
theorem law7_w (gs : List Gl) (ks : List Kn) (s : List UInt8) (which by_ other : Int) : PCall Try.prog (.func 7) [.ag [.sl 2 (gs.map grow) .no, .sl 3 (ks.map krow) .no], .str s, .int .u8 which, .int .u16 by_, .int .u8 other] (.bool true) := by
  refine PCall.ok fun hok => ?_
  simp only [okAll, D.ok, okRows, and_true, true_and, lim_eq, inR_i64', inR_i32', inR_u8', inR_u16', inR_u64'] at hok
  obtain ⟨⟨⟨hg, hgr⟩, hk, hkr⟩, hs0, hwh, hby, hot⟩ := hok; rw [List.length_map] at hg hk
  refine PCall.le ?_
  refine fn_ Try.func7 (by rfl) (by rfl) (rs := [.tmp 10]) (by rfl) (by simp [Try.f7]) ?_
  refine sq ?_
  refine rg [1, 2, 3, 4, 5] [5] [] (by kernel_rfl) ?_; intro κ ξ hκ hξ
  try simp (config := { decide := true }) only [go_sem, Nat.reduceMul, Nat.reduceAdd, Nat.reduceBEq, cond_false]
  repeat with_reducible refine And.intro (by first | assumption | omega | (simp; done) | (simp; omega) | (intro hg; simp (config := { decide := true }) only [go_sem, hg]; done) | (intro hg; simp (config := { decide := true }) only [go_sem, hg]; omega)) ?_
  refine hκ _ _ ?_; clear hκ hξ ξ κ
  refine sq ?_
  refine rg [1, 2, 3, 4, 5, 11] [] [] (by kernel_rfl) ?_; intro κ ξ hκ hξ
  try simp (config := { decide := true }) only [go_sem, Nat.reduceMul, Nat.reduceAdd, Nat.reduceBEq, cond_false]
  repeat with_reducible refine And.intro (by first | assumption | omega | (simp; done) | (simp; omega) | (intro hg; simp (config := { decide := true }) only [go_sem, hg]; done) | (intro hg; simp (config := { decide := true }) only [go_sem, hg]; omega)) ?_
  refine callF (head_w) ?_
  try simp (config := { decide := true }) only [go_sem, Nat.reduceMul, Nat.reduceAdd, Nat.reduceBEq, cond_false]
  repeat with_reducible refine And.intro (by first | assumption | omega | (simp; done) | (simp; omega) | (intro hg; simp (config := { decide := true }) only [go_sem, hg]; done) | (intro hg; simp (config := { decide := true }) only [go_sem, hg]; omega)) ?_
  refine hκ _ _ ?_; clear hκ hξ ξ κ
  refine sq ?_
  refine sq ?_
  refine rg [1, 2, 3, 4, 5, 11, 35] [] [(4, 30)] (by kernel_rfl) ?_; intro κ ξ hκ hξ
  try simp (config := { decide := true }) only [go_sem, Nat.reduceMul, Nat.reduceAdd, Nat.reduceBEq, cond_false]
  repeat with_reducible refine And.intro (by first | assumption | omega | (simp; done) | (simp; omega) | (intro hg; simp (config := { decide := true }) only [go_sem, hg]; done) | (intro hg; simp (config := { decide := true }) only [go_sem, hg]; omega)) ?_
  refine callF (usable_w _ _ _ _ _) ?_
  try simp (config := { decide := true }) only [go_sem, Nat.reduceMul, Nat.reduceAdd, Nat.reduceBEq, cond_false]
  repeat with_reducible refine And.intro (by first | assumption | omega | (simp; done) | (simp; omega) | (intro hg; simp (config := { decide := true }) only [go_sem, hg]; done) | (intro hg; simp (config := { decide := true }) only [go_sem, hg]; omega)) ?_
  refine hκ _ _ ?_; clear hκ hξ ξ κ
  refine cd (by rfl) (fun c0 => ?_) (fun c0 => ?_)
  · skip
    refine sq ?_
    refine rg [10] [] [] (by kernel_rfl) ?_; intro κ ξ hκ hξ
    try simp (config := { decide := true }) only [go_sem, Nat.reduceMul, Nat.reduceAdd, Nat.reduceBEq, cond_false, c0]
    repeat with_reducible refine And.intro (by first | assumption | omega | (simp; done) | (simp; omega) | (intro hg; simp (config := { decide := true }) only [go_sem, hg]; done) | (intro hg; simp (config := { decide := true }) only [go_sem, hg]; omega)) ?_
    refine hκ _ _ ?_; clear hκ hξ ξ κ
    refine rt ?_
    refine retE ?_
    simp (config := { decide := true }) only [go_sem, resD, resV, c0]
    all_goals simp
  · have u : usableB gs ks s = true ∧ gs.length ≠ 0 := by
      revert c0
      cases usableB gs ks s <;> simp (config := { decide := true }) only [go_sem] <;> (try omega) <;> (try simp) <;> omega
    obtain ⟨hF, hT, hH, hL⟩ := usable_true u.1
    obtain ⟨i, hi, hi1⟩ : ∃ i : Nat, (IntKind.wrap .i64 which).tmod (gs.length : Int) = i ∧ i < gs.length := by
      rw [w64 (n := which) (by omega), Int.tmod_eq_emod_of_nonneg hwh.1]
      have h1 := Int.emod_nonneg which (b := (gs.length : Int)) (by omega)
      have h2 := Int.emod_lt_of_pos which (b := (gs.length : Int)) (by omega)
      exact ⟨(which % (gs.length : Int)).toNat, by omega, by omega⟩
    have hi2 : (i : Int) < (gs.length : Int) := by omega
    have hi0 : (gs.length : Int) ≠ 0 := by omega
    have h94 := (fok_true.1 hF).1.1
    have h200 := (fok_true.1 hF).1.2
    have hne : gs.map grow ≠ [] := by intro e; have := congrArg List.length e; rw [List.length_map, List.length_nil] at this; omega
    have hq1 : ((i * 2 + 1) / 2 : Nat) = i := by omega
    have hq2 : ((i * 2 + 1) % 2 : Nat) = 1 := by omega
    have hdr := grow_drop hi1
    have hga := (fok_true.1 hF).2.1 i hi1
    obtain ⟨-, -, ga0, ga1, -⟩ := hga
    obtain ⟨m, hm, hm0, hm1⟩ : ∃ m : Int, mnI (IntKind.wrap .i64 by_) (IntKind.wrap .i64 (1000 - (gat gs i).2)) = m ∧ 0 ≤ m ∧ (gat gs i).2 + m ≤ 1000 := by
      refine ⟨_, rfl, ?_⟩
      rw [w64 (n := by_) (by omega), w64 (n := 1000 - (gat gs i).2) (by omega)]
      unfold mnI
      split <;> omega
    have hwm : IntKind.wrap .i64 ((gat gs i).2 + m) = (gat gs i).2 + m := w64 (by omega)
    have hset := grow_set ((gat gs i).2 + m) hi1
    obtain ⟨v1, v2, v3, v4, v5⟩ := adv_w other hF hT hH hi1 hm0 hm1
    have hrn := raw_nonneg hF hT hH hL
    have hcn := cnt_le s (gat gs i).1
    have hcm : 0 ≤ (cnt s (gat gs i).1 : Int) * m ∧ (cnt s (gat gs i).1 : Int) * m ≤ 300 * 1000 :=
      ⟨Int.mul_nonneg (by omega) hm0, Int.mul_le_mul (by omega) (by omega) hm0 (by omega)⟩
    have hgl : (gs.map grow).length = gs.length := List.length_map ..
    refine sk ?_
    refine sq ?_
    refine rg [1, 3, 4, 5, 11, 12] [] [] (by kernel_rfl) ?_; intro κ ξ hκ hξ
    try simp (config := { decide := true }) only [go_sem, Nat.reduceMul, Nat.reduceAdd, Nat.reduceBEq, cond_false, c0, hi, hi2, hi0, hdr, hm, foldI, hq1, hq2, hset, hwm, hgl, hi1, List.length_cons, Nat.le_add_left, List.headD_cons]
    repeat with_reducible refine And.intro (by first | assumption | omega | (simp; done) | (simp; omega) | (intro hg; simp (config := { decide := true }) only [go_sem, hg]; done) | (intro hg; simp (config := { decide := true }) only [go_sem, hg]; omega)) ?_
    refine hκ _ _ ?_; clear hκ hξ ξ κ
    refine jnp (α := Nat × Nat × Nat) (fun z => mk [(1, .str s), (3, .int .u16 by_), (4, .int .u8 other), (5, .el [.sl 2 (gs.map grow) .no, .sl 3 (ks.map krow) .no]), (11, .bool true), (12, .int .i64 i), (13, .ptr z.1 0)]) (fun z => [(z.1, .cells [.arr z.2.1 2 gs.length z.2.2, .sl 3 (ks.map krow) .no]), (z.2.1, .arr 2 (gs.map grow) z.2.2)]) (fun z => z.2.1 ≠ z.1 ∧ gs.length ≤ z.2.2) ?_ ?_
    · refine rgt [1, 3, 4, 5, 11, 12, 13] [46] [] [] [1, 2, 4, 5] (.br 0 [] (.br 3 [6, 7, 8] .fin 7 [3, 6, 8] .fin) 7 [0, 3, 6, 8] .fin) (by kernel_rfl) (by kernel_rfl) (Pk.cons rfl (Pk.cons rfl (Pk.cons rfl (Pk.cons rfl (Pk.nil))))) ?_; intro κ ξ hκ hξ
      try simp (config := { decide := true }) only [go_sem, Nat.reduceMul, Nat.reduceAdd, Nat.reduceBEq, cond_false, c0, hi, hi2, hi0, hdr, hm, foldI, hq1, hq2, hset, hwm, hgl, hi1, List.length_cons, Nat.le_add_left, List.headD_cons]
      repeat with_reducible refine And.intro (by first | assumption | omega | (simp; done) | (simp; omega) | (intro hg; simp (config := { decide := true }) only [go_sem, hg]; done) | (intro hg; simp (config := { decide := true }) only [go_sem, hg]; omega)) ?_
      refine SET_br (Pk.cons rfl (Pk.nil)) (Pk.cons rfl (Pk.cons rfl (Pk.cons rfl (Pk.cons rfl (Pk.cons rfl (Pk.nil)))))) ?_ ?_
      · try simp (config := { decide := true }) only [go_sem, Nat.reduceMul, Nat.reduceAdd, Nat.reduceBEq, cond_false, c0, hi, hi2, hi0, hdr, hm, foldI, hq1, hq2, hset, hwm, hgl, hi1, List.length_cons, Nat.le_add_left, List.headD_cons]
        repeat with_reducible refine And.intro (by first | assumption | omega | (simp; done) | (simp; omega) | (intro hg; simp (config := { decide := true }) only [go_sem, hg]; done) | (intro hg; simp (config := { decide := true }) only [go_sem, hg]; omega)) ?_
        refine SET_br (Pk.cons rfl (Pk.cons rfl (Pk.cons rfl (Pk.cons rfl (Pk.nil))))) (Pk.cons rfl (Pk.cons rfl (Pk.cons rfl (Pk.cons rfl (Pk.nil))))) ?_ ?_
        · try simp (config := { decide := true }) only [go_sem, Nat.reduceMul, Nat.reduceAdd, Nat.reduceBEq, cond_false, c0, hi, hi2, hi0, hdr, hm, foldI, hq1, hq2, hset, hwm, hgl, hi1, List.length_cons, Nat.le_add_left, List.headD_cons]
          repeat with_reducible refine And.intro (by first | assumption | omega | (simp; done) | (simp; omega) | (intro hg; simp (config := { decide := true }) only [go_sem, hg]; done) | (intro hg; simp (config := { decide := true }) only [go_sem, hg]; omega)) ?_
          refine .inl (nappM_of rfl rfl (by simp (config := { decide := true }) only [go_sem, Option.isSome_some]) tf76 tf77 tf138 (by refine ⟨⟨rfl, by decide, by decide⟩, by simp [grow, D.isCell], hne, ?_⟩; simp [capB]; omega) ?_); rw [List.length_map]; intro b46 c46 hb46 hc46
          try simp (config := { decide := true }) only [go_sem, Nat.reduceMul, Nat.reduceAdd, Nat.reduceBEq, cond_false, c0, hi, hi2, hi0, hdr, hm, foldI, hq1, hq2, hset, hwm, hgl, hi1, List.length_cons, Nat.le_add_left, List.headD_cons, hb46]
          repeat with_reducible refine And.intro (by first | assumption | omega | (simp; done) | (simp; omega) | (intro hg; simp (config := { decide := true }) only [go_sem, hg]; done) | (intro hg; simp (config := { decide := true }) only [go_sem, hg]; omega)) ?_
          intro b13 hb13
          try simp (config := { decide := true }) only [go_sem, Nat.reduceMul, Nat.reduceAdd, Nat.reduceBEq, cond_false, c0, hi, hi2, hi0, hdr, hm, foldI, hq1, hq2, hset, hwm, hgl, hi1, List.length_cons, Nat.le_add_left, List.headD_cons, hb46, hb13]
          repeat with_reducible refine And.intro (by first | assumption | omega | (simp; done) | (simp; omega) | (intro hg; simp (config := { decide := true }) only [go_sem, hg]; done) | (intro hg; simp (config := { decide := true }) only [go_sem, hg]; omega)) ?_
          refine SET_fin ?_
          try simp (config := { decide := true }) only [go_sem, Nat.reduceMul, Nat.reduceAdd, Nat.reduceBEq, cond_false, c0, hi, hi2, hi0, hdr, hm, foldI, hq1, hq2, hset, hwm, hgl, hi1, List.length_cons, Nat.le_add_left, List.headD_cons, hb46, hb13]
          repeat with_reducible refine And.intro (by first | assumption | omega | (simp; done) | (simp; omega) | (intro hg; simp (config := { decide := true }) only [go_sem, hg]; done) | (intro hg; simp (config := { decide := true }) only [go_sem, hg]; omega)) ?_
          refine hκ _ _ ?_; clear hκ hξ ξ κ
          simp only [Store.keys, List.map_cons, List.map_nil, List.mem_cons, not_or] at hb13
          exact ⟨(b13, b46, c46), ⟨hb13.1, hc46⟩, EnvLe.of_eq rfl, .refl _⟩
        · try simp (config := { decide := true }) only [go_sem, Nat.reduceMul, Nat.reduceAdd, Nat.reduceBEq, cond_false, c0, hi, hi2, hi0, hdr, hm, foldI, hq1, hq2, hset, hwm, hgl, hi1, List.length_cons, Nat.le_add_left, List.headD_cons]
          repeat with_reducible refine And.intro (by first | assumption | omega | (simp; done) | (simp; omega) | (intro hg; simp (config := { decide := true }) only [go_sem, hg]; done) | (intro hg; simp (config := { decide := true }) only [go_sem, hg]; omega)) ?_
          intro b13 hb13
          try simp (config := { decide := true }) only [go_sem, Nat.reduceMul, Nat.reduceAdd, Nat.reduceBEq, cond_false, c0, hi, hi2, hi0, hdr, hm, foldI, hq1, hq2, hset, hwm, hgl, hi1, List.length_cons, Nat.le_add_left, List.headD_cons, hb13]
          repeat with_reducible refine And.intro (by first | assumption | omega | (simp; done) | (simp; omega) | (intro hg; simp (config := { decide := true }) only [go_sem, hg]; done) | (intro hg; simp (config := { decide := true }) only [go_sem, hg]; omega)) ?_
          refine .inl (nappM_of rfl rfl (by simp (config := { decide := true }) only [go_sem, Option.isSome_some]) tf76 tf77 tf138 (by refine ⟨⟨rfl, by decide, by decide⟩, by simp [grow, D.isCell], hne, ?_⟩; simp [capB]; omega) ?_); rw [List.length_map]; intro b46 c46 hb46 hc46
          have hb47 := hb46
          simp only [Store.keys, List.map_cons, List.map_nil, List.mem_cons, not_or] at hb47
          have hb48 := Ne.symm hb47.1
          try simp (config := { decide := true }) only [go_sem, Nat.reduceMul, Nat.reduceAdd, Nat.reduceBEq, cond_false, c0, hi, hi2, hi0, hdr, hm, foldI, hq1, hq2, hset, hwm, hgl, hi1, List.length_cons, Nat.le_add_left, List.headD_cons, hb46, hb13, hb48]
          repeat with_reducible refine And.intro (by first | assumption | omega | (simp; done) | (simp; omega) | (intro hg; simp (config := { decide := true }) only [go_sem, hg]; done) | (intro hg; simp (config := { decide := true }) only [go_sem, hg]; omega)) ?_
          refine SET_fin ?_
          try simp (config := { decide := true }) only [go_sem, Nat.reduceMul, Nat.reduceAdd, Nat.reduceBEq, cond_false, c0, hi, hi2, hi0, hdr, hm, foldI, hq1, hq2, hset, hwm, hgl, hi1, List.length_cons, Nat.le_add_left, List.headD_cons, hb46, hb13, hb48]
          repeat with_reducible refine And.intro (by first | assumption | omega | (simp; done) | (simp; omega) | (intro hg; simp (config := { decide := true }) only [go_sem, hg]; done) | (intro hg; simp (config := { decide := true }) only [go_sem, hg]; omega)) ?_
          refine hκ _ _ ?_; clear hκ hξ ξ κ
          exact ⟨(b13, b46, c46), ⟨hb47.1, hc46⟩, EnvLe.of_eq rfl, List.Perm.swap _ _ _⟩
      · try simp (config := { decide := true }) only [go_sem, Nat.reduceMul, Nat.reduceAdd, Nat.reduceBEq, cond_false, c0, hi, hi2, hi0, hdr, hm, foldI, hq1, hq2, hset, hwm, hgl, hi1, List.length_cons, Nat.le_add_left, List.headD_cons]
        repeat with_reducible refine And.intro (by first | assumption | omega | (simp; done) | (simp; omega) | (intro hg; simp (config := { decide := true }) only [go_sem, hg]; done) | (intro hg; simp (config := { decide := true }) only [go_sem, hg]; omega)) ?_
        intro b13 hb13
        try simp (config := { decide := true }) only [go_sem, Nat.reduceMul, Nat.reduceAdd, Nat.reduceBEq, cond_false, c0, hi, hi2, hi0, hdr, hm, foldI, hq1, hq2, hset, hwm, hgl, hi1, List.length_cons, Nat.le_add_left, List.headD_cons, hb13]
        repeat with_reducible refine And.intro (by first | assumption | omega | (simp; done) | (simp; omega) | (intro hg; simp (config := { decide := true }) only [go_sem, hg]; done) | (intro hg; simp (config := { decide := true }) only [go_sem, hg]; omega)) ?_
        refine .inl (nappM_of rfl rfl (by simp (config := { decide := true }) only [go_sem, Option.isSome_some]) tf76 tf77 tf138 (by refine ⟨⟨rfl, by decide, by decide⟩, by simp [grow, D.isCell], hne, ?_⟩; simp [capB]; omega) ?_); rw [List.length_map]; intro b46 c46 hb46 hc46
        have hb47 := hb46
        simp only [Store.keys, List.map_cons, List.map_nil, List.mem_cons, not_or] at hb47
        have hb48 := Ne.symm hb47.1
        try simp (config := { decide := true }) only [go_sem, Nat.reduceMul, Nat.reduceAdd, Nat.reduceBEq, cond_false, c0, hi, hi2, hi0, hdr, hm, foldI, hq1, hq2, hset, hwm, hgl, hi1, List.length_cons, Nat.le_add_left, List.headD_cons, hb46, hb13, hb48]
        repeat with_reducible refine And.intro (by first | assumption | omega | (simp; done) | (simp; omega) | (intro hg; simp (config := { decide := true }) only [go_sem, hg]; done) | (intro hg; simp (config := { decide := true }) only [go_sem, hg]; omega)) ?_
        refine SET_fin ?_
        try simp (config := { decide := true }) only [go_sem, Nat.reduceMul, Nat.reduceAdd, Nat.reduceBEq, cond_false, c0, hi, hi2, hi0, hdr, hm, foldI, hq1, hq2, hset, hwm, hgl, hi1, List.length_cons, Nat.le_add_left, List.headD_cons, hb46, hb13, hb48]
        repeat with_reducible refine And.intro (by first | assumption | omega | (simp; done) | (simp; omega) | (intro hg; simp (config := { decide := true }) only [go_sem, hg]; done) | (intro hg; simp (config := { decide := true }) only [go_sem, hg]; omega)) ?_
        refine hκ _ _ ?_; clear hκ hξ ξ κ
        exact ⟨(b13, b46, c46), ⟨hb47.1, hc46⟩, EnvLe.of_eq rfl, List.Perm.swap _ _ _⟩
    · rintro ⟨b13, b46, c46⟩ ⟨hbb, hc46⟩
      simp only at hbb hc46
      have hb13 : ¬b46 = b13 ∧ ¬b13 ∈ Store.keys [] := ⟨hbb, by simp [Store.keys]⟩
      refine sq ?_
      refine rg [1, 4, 5, 11, 12, 13, 14] [] [] (by kernel_rfl) ?_; intro κ ξ hκ hξ
      try simp (config := { decide := true }) only [go_sem, Nat.reduceMul, Nat.reduceAdd, Nat.reduceBEq, cond_false, c0, hi, hi2, hi0, hdr, hm, foldI, hq1, hq2, hset, hwm, hgl, hi1, List.length_cons, Nat.le_add_left, List.headD_cons, hb13, hbb, Ne.symm hbb]
      repeat with_reducible refine And.intro (by first | assumption | omega | (simp; done) | (simp; omega) | (intro hg; simp (config := { decide := true }) only [go_sem, hg]; done) | (intro hg; simp (config := { decide := true }) only [go_sem, hg]; omega)) ?_
      refine hκ _ _ ?_; clear hκ hξ ξ κ
      refine sq ?_
      refine rg [1, 4, 5, 11, 12, 13, 14] [] [] (by kernel_rfl) ?_; intro κ ξ hκ hξ
      try simp (config := { decide := true }) only [go_sem, Nat.reduceMul, Nat.reduceAdd, Nat.reduceBEq, cond_false, c0, hi, hi2, hi0, hdr, hm, foldI, hq1, hq2, hset, hwm, hgl, hi1, List.length_cons, Nat.le_add_left, List.headD_cons, hb13, hbb, Ne.symm hbb]
      repeat with_reducible refine And.intro (by first | assumption | omega | (simp; done) | (simp; omega) | (intro hg; simp (config := { decide := true }) only [go_sem, hg]; done) | (intro hg; simp (config := { decide := true }) only [go_sem, hg]; omega)) ?_
      refine hκ _ _ ?_; clear hκ hξ ξ κ
      refine fza b46 [] [b13] (sz := 2) (rows := (gs.set i ((gat gs i).1, (gat gs i).2 + m)).map grow) (cap := c46) ?_ ?_
      · simp [Store.get, hb13.1, Ne.symm hb13.1]
      rw [fraE_nil]
      have hfs : fraS [b13] b46 2 ((gs.set i ((gat gs i).1, (gat gs i).2 + m)).map grow) (Store.del [(b13, .cells [.arr b46 2 gs.length c46, .sl 3 (ks.map krow) .no]), (b46, .arr 2 ((gs.set i ((gat gs i).1, (gat gs i).2 + m)).map grow) c46)] b46) = [(b13, .cells [.sl 2 ((gs.set i ((gat gs i).1, (gat gs i).2 + m)).map grow) .no, .sl 3 (ks.map krow) .no])] := by
        have e1 : gs.length ≤ lim := by unfold lim; omega
        have e2 : List.take gs.length ((gs.set i ((gat gs i).1, (gat gs i).2 + m)).map grow) = (gs.set i ((gat gs i).1, (gat gs i).2 + m)).map grow := by
          rw [List.take_of_length_le]; rw [List.length_map, List.length_set]; exact Nat.le_refl _
        simp [Store.del, hb13.1, Ne.symm hb13.1, fraS, fraB, fra1, hc46, e1, e2, -List.map_set]
      rw [hfs]
      clear hfs
      obtain ⟨g2, hg2⟩ : ∃ g2, g2 = gs.set i ((gat gs i).1, (gat gs i).2 + m) := ⟨_, rfl⟩
      rw [← hg2]
      have hl2 : g2.length = gs.length := by rw [hg2, List.length_set]
      refine sq ?_
      refine rg [1, 4, 5, 11, 12, 13, 14, 15] [] [] (by kernel_rfl) ?_; intro κ ξ hκ hξ
      try simp (config := { decide := true }) only [go_sem, Nat.reduceMul, Nat.reduceAdd, Nat.reduceBEq, cond_false, c0, hi, hi2, hi0, hdr, hm, foldI, hq1, hq2, hset, hwm, hgl, hi1, List.length_cons, Nat.le_add_left, List.headD_cons, hb13, hbb, Ne.symm hbb]
      repeat with_reducible refine And.intro (by first | assumption | omega | (simp; done) | (simp; omega) | (intro hg; simp (config := { decide := true }) only [go_sem, hg]; done) | (intro hg; simp (config := { decide := true }) only [go_sem, hg]; omega)) ?_
      intro b15 hb15
      try simp (config := { decide := true }) only [go_sem, Nat.reduceMul, Nat.reduceAdd, Nat.reduceBEq, cond_false, c0, hi, hi2, hi0, hdr, hm, foldI, hq1, hq2, hset, hwm, hgl, hi1, List.length_cons, Nat.le_add_left, List.headD_cons, hb13, hbb, Ne.symm hbb, hb15]
      repeat with_reducible refine And.intro (by first | assumption | omega | (simp; done) | (simp; omega) | (intro hg; simp (config := { decide := true }) only [go_sem, hg]; done) | (intro hg; simp (config := { decide := true }) only [go_sem, hg]; omega)) ?_
      refine hκ _ _ ?_; clear hκ hξ ξ κ
      refine sq ?_
      refine rg [1, 4, 5, 11, 12, 13, 14, 15] [] [] (by kernel_rfl) ?_; intro κ ξ hκ hξ
      try simp (config := { decide := true }) only [go_sem, Nat.reduceMul, Nat.reduceAdd, Nat.reduceBEq, cond_false, c0, hi, hi2, hi0, hdr, hm, foldI, hq1, hq2, hset, hwm, hgl, hi1, List.length_cons, Nat.le_add_left, List.headD_cons, hb13, hbb, Ne.symm hbb, hb15]
      repeat with_reducible refine And.intro (by first | assumption | omega | (simp; done) | (simp; omega) | (intro hg; simp (config := { decide := true }) only [go_sem, hg]; done) | (intro hg; simp (config := { decide := true }) only [go_sem, hg]; omega)) ?_
      refine hκ _ _ ?_; clear hκ hξ ξ κ
      refine sq ?_
      refine sq ?_
      refine rg [1, 4, 5, 11, 12, 13, 14, 15, 74, 75, 76] [] [] (by kernel_rfl) ?_; intro κ ξ hκ hξ
      try simp (config := { decide := true }) only [go_sem, Nat.reduceMul, Nat.reduceAdd, Nat.reduceBEq, cond_false, c0, hi, hi2, hi0, hdr, hm, foldI, hq1, hq2, hset, hwm, hgl, hi1, List.length_cons, Nat.le_add_left, List.headD_cons, hb13, hbb, Ne.symm hbb, hb15]
      repeat with_reducible refine And.intro (by first | assumption | omega | (simp; done) | (simp; omega) | (intro hg; simp (config := { decide := true }) only [go_sem, hg]; done) | (intro hg; simp (config := { decide := true }) only [go_sem, hg]; omega)) ?_
      refine hκ _ _ ?_; clear hκ hξ ξ κ
      refine bl ?_
      refine lp (α := Nat × Option (Nat × Nat)) (fun y => mk [(1, .str s), (4, .int .u8 other), (5, .el [.sl 2 (gs.map grow) .no, .sl 3 (ks.map krow) .no]), (11, .bool true), (12, .int .i64 i), (13, .ptr b13 0), (14, .int .i64 m), (15, .ptr b15 0), (74, .sl 3 (ks.map krow) .no), (75, .int .i64 ks.length), (76, .int .i64 y.1)]) (fun y => apS 3 (kf (ks.take y.1) s other).length y.2 ++ [(b15, .cells [.sl 2 (gs.map grow) .no, apD 3 ((kf (ks.take y.1) s other).map krow) y.2]), (b13, .cells [.sl 2 (g2.map grow) .no, .sl 3 (ks.map krow) .no])]) (fun y => y.1 ≤ ks.length ∧ apOK ((kf (ks.take y.1) s other).map krow) y.2 ∧ ∀ b c, y.2 = some (b, c) → b ≠ b15 ∧ b ≠ b13) (fun y => ks.length - y.1) (0, none) ⟨⟨by omega, fun _ => rfl, fun b c h => by cases h⟩, EnvLe.of_eq rfl, .refl _⟩ ?_
      rintro ⟨j, o⟩ ⟨hj, ho, hob⟩
      simp only at hj ho hob
      have hkl := kf_len (ks.take j) s other
      rw [List.length_take] at hkl
      refine sq ?_
      rcases o with _ | ⟨bo, co⟩
      · have hkn := ho rfl
        refine rg [1, 4, 5, 11, 12, 13, 14, 15, 74, 75, 76, 77] [] [] (by kernel_rfl) ?_; intro κ ξ hκ hξ
        try simp (config := { decide := true }) only [go_sem, Nat.reduceMul, Nat.reduceAdd, Nat.reduceBEq, cond_false, c0, hi, hi2, hi0, hdr, hm, foldI, hq1, hq2, hset, hwm, hgl, hi1, List.length_cons, Nat.le_add_left, List.headD_cons, hb13, hbb, Ne.symm hbb, hb15, apS, apD, List.nil_append, List.cons_append]
        repeat with_reducible refine And.intro (by first | assumption | omega | (simp; done) | (simp; omega) | (intro hg; simp (config := { decide := true }) only [go_sem, hg]; done) | (intro hg; simp (config := { decide := true }) only [go_sem, hg]; omega)) ?_
        refine hκ _ _ ?_; clear hκ hξ ξ κ
        refine sq ?_
        refine cd (by rfl) (fun c1 => ?_) (fun c1 => ?_)
        · try simp only [go_sem] at c1
          refine sk ?_
          refine sq ?_
          refine bl ?_
          refine sq ?_
          refine rgz [(17, [])] [1, 4, 5, 11, 12, 13, 14, 15, 17, 74, 75, 76] [] [] (by kernel_rfl) ?_; intro κ ξ hκ hξ
          try simp (config := { decide := true }) only [go_sem, Nat.reduceMul, Nat.reduceAdd, Nat.reduceBEq, cond_false, c0, hi, hi2, hi0, hdr, hm, foldI, hq1, hq2, hset, hwm, hgl, hi1, List.length_cons, Nat.le_add_left, List.headD_cons, hb13, hbb, Ne.symm hbb, hb15, apS, apD, List.nil_append, List.cons_append, c1]
          repeat with_reducible refine And.intro (by first | assumption | omega | (simp; done) | (simp; omega) | (intro hg; simp (config := { decide := true }) only [go_sem, hg]; done) | (intro hg; simp (config := { decide := true }) only [go_sem, hg]; omega)) ?_
          intro b17 hb17
          try simp (config := { decide := true }) only [go_sem, Nat.reduceMul, Nat.reduceAdd, Nat.reduceBEq, cond_false, c0, hi, hi2, hi0, hdr, hm, foldI, hq1, hq2, hset, hwm, hgl, hi1, List.length_cons, Nat.le_add_left, List.headD_cons, hb13, hbb, Ne.symm hbb, hb15, apS, apD, List.nil_append, List.cons_append, c1, hb17]
          repeat with_reducible refine And.intro (by first | assumption | omega | (simp; done) | (simp; omega) | (intro hg; simp (config := { decide := true }) only [go_sem, hg]; done) | (intro hg; simp (config := { decide := true }) only [go_sem, hg]; omega)) ?_
          refine hκ _ _ ?_; clear hκ hξ ξ κ
          refine sq ?_
          refine rg [1, 4, 5, 11, 12, 13, 14, 15, 17, 74, 75, 76, 95] [] [(4, 84), (10, 90)] (by kernel_rfl) ?_; intro κ ξ hκ hξ
          try simp (config := { decide := true }) only [go_sem, Nat.reduceMul, Nat.reduceAdd, Nat.reduceBEq, cond_false, c0, hi, hi2, hi0, hdr, hm, foldI, hq1, hq2, hset, hwm, hgl, hi1, List.length_cons, Nat.le_add_left, List.headD_cons, hb13, hbb, Ne.symm hbb, hb15, apS, apD, List.nil_append, List.cons_append, c1, hb17]
          repeat with_reducible refine And.intro (by first | assumption | omega | (simp; done) | (simp; omega) | (intro hg; simp (config := { decide := true }) only [go_sem, hg]; done) | (intro hg; simp (config := { decide := true }) only [go_sem, hg]; omega)) ?_
          refine vo_gc ?_; simp (config := { decide := true }) only [go_sem, c0, hi, hi2, hi0, hdr, hm, foldI, hq1, hq2, hset, hwm, hgl, hi1, List.length_cons, Nat.le_add_left, List.headD_cons, hb13, hbb, Ne.symm hbb, hb15, apS, apD, List.nil_append, List.cons_append, c1, hb17]; refine gcallF (fun hg => ⟨by first | rfl | (simp (config := { decide := true }) only [go_sem, hg, c0, hi, hi2, hi0, hdr, hm, foldI, hq1, hq2, hset, hwm, hgl, hi1, List.length_cons, Nat.le_add_left, List.headD_cons, hb13, hbb, Ne.symm hbb, hb15, apS, apD, List.nil_append, List.cons_append, c1, hb17]; done) | exact hg | simpa using hg, count_w _ _⟩) ?_
          try simp (config := { decide := true }) only [go_sem, Nat.reduceMul, Nat.reduceAdd, Nat.reduceBEq, cond_false, c0, hi, hi2, hi0, hdr, hm, foldI, hq1, hq2, hset, hwm, hgl, hi1, List.length_cons, Nat.le_add_left, List.headD_cons, hb13, hbb, Ne.symm hbb, hb15, apS, apD, List.nil_append, List.cons_append, c1, hb17]
          repeat with_reducible refine And.intro (by first | assumption | omega | (simp; done) | (simp; omega) | (intro hg; simp (config := { decide := true }) only [go_sem, hg]; done) | (intro hg; simp (config := { decide := true }) only [go_sem, hg]; omega)) ?_
          refine hκ _ _ ?_; clear hκ hξ ξ κ
          refine cd (by rfl) (fun c2 => ?_) (fun c2 => ?_)
          · try simp only [go_sem] at c2
            refine rg [1, 4, 5, 11, 12, 13, 14, 15, 74, 75, 76] [] [] (by kernel_rfl) ?_; intro κ ξ hκ hξ
            try simp (config := { decide := true }) only [go_sem, Nat.reduceMul, Nat.reduceAdd, Nat.reduceBEq, cond_false, c0, hi, hi2, hi0, hdr, hm, foldI, hq1, hq2, hset, hwm, hgl, hi1, List.length_cons, Nat.le_add_left, List.headD_cons, hb13, hbb, Ne.symm hbb, hb15, apS, apD, List.nil_append, List.cons_append, c1, hb17, c2]
            repeat with_reducible refine And.intro (by first | assumption | omega | (simp; done) | (simp; omega) | (intro hg; simp (config := { decide := true }) only [go_sem, hg]; done) | (intro hg; simp (config := { decide := true }) only [go_sem, hg]; omega)) ?_
            first
            | refine napp_growN (o := none) (rows := (kf (ks.take j) s other).map krow) (ρ := [(b15, _), (b13, _)]) ho (apFr_none _) (List.length_map ..) rfl rfl (by simp (config := { decide := true }) only [go_sem, Option.isSome_some]) tf86 tf87 tf150 (by refine ⟨⟨rfl, by decide, by decide⟩, by simp (config := { decide := true }) only [go_sem], by simp, ?_⟩; simp [capB]; omega) ?_
            | refine napp_growN (o := some (bo, co)) (rows := (kf (ks.take j) s other).map krow) (ρ := [(b15, _), (b13, _)]) ho (apFr_some (by simp [Store.keys, hob1, hob2, Ne.symm hob1, Ne.symm hob2])) (List.length_map ..) rfl rfl (by simp (config := { decide := true }) only [go_sem, Option.isSome_some]) tf86 tf87 tf150 (by refine ⟨⟨rfl, by decide, by decide⟩, by simp (config := { decide := true }) only [go_sem], by simp, ?_⟩; simp [capB]; omega) ?_
            intro b100 c100 hb100
            have hb1 : b15 ≠ b100 := fun e => hb100 (by simp [Store.keys, e])
            have hb2 : b13 ≠ b100 := fun e => hb100 (by simp [Store.keys, e])
            try simp (config := { decide := true }) only [go_sem, Nat.reduceMul, Nat.reduceAdd, Nat.reduceBEq, cond_false, c0, hi, hi2, hi0, hdr, hm, foldI, hq1, hq2, hset, hwm, hgl, hi1, List.length_cons, Nat.le_add_left, List.headD_cons, hb13, hbb, Ne.symm hbb, hb15, apS, apD, List.nil_append, List.cons_append, c1, hb17, c2, hb1, hb2]
            repeat with_reducible refine And.intro (by first | assumption | omega | (simp; done) | (simp; omega) | (intro hg; simp (config := { decide := true }) only [go_sem, hg]; done) | (intro hg; simp (config := { decide := true }) only [go_sem, hg]; omega)) ?_
            refine hκ _ _ ?_; clear hκ hξ ξ κ
            refine rg [1, 4, 5, 11, 12, 13, 14, 15, 74, 75, 76] [] [] (by kernel_rfl) ?_; intro κ ξ hκ hξ
            try simp (config := { decide := true }) only [go_sem, Nat.reduceMul, Nat.reduceAdd, Nat.reduceBEq, cond_false, c0, hi, hi2, hi0, hdr, hm, foldI, hq1, hq2, hset, hwm, hgl, hi1, List.length_cons, Nat.le_add_left, List.headD_cons, hb13, hbb, Ne.symm hbb, hb15, apS, apD, List.nil_append, List.cons_append, c1, hb17, c2, hb1, hb2]
            repeat with_reducible refine And.intro (by first | assumption | omega | (simp; done) | (simp; omega) | (intro hg; simp (config := { decide := true }) only [go_sem, hg]; done) | (intro hg; simp (config := { decide := true }) only [go_sem, hg]; omega)) ?_
            refine hκ _ _ ?_; clear hκ hξ ξ κ
            refine ⟨(j + 1, some (b100, c100)), ⟨⟨by omega, (show apOK _ (some _) from fun h => by cases h), fun b c h => by cases h; exact ⟨Ne.symm hb1, Ne.symm hb2⟩⟩, by simp only; omega⟩, EnvLe.of_eq ?_, ?_⟩
            · rw [w64 (by omega)]; rfl
            · simp only [kf_take (show j < ks.length by omega), kfP, decide_eq_true (show ((kat ks j).1 ≠ other ∧ (kat ks j).2.1 ≠ other) ∨ 0 < (cnt s other : Int) by omega), if_true, List.map_append, List.length_append]; exact .refl _
          · try simp only [go_sem] at c2
            refine sk ?_
            refine rg [1, 4, 5, 11, 12, 13, 14, 15, 74, 75, 76] [] [] (by kernel_rfl) ?_; intro κ ξ hκ hξ
            try simp (config := { decide := true }) only [go_sem, Nat.reduceMul, Nat.reduceAdd, Nat.reduceBEq, cond_false, c0, hi, hi2, hi0, hdr, hm, foldI, hq1, hq2, hset, hwm, hgl, hi1, List.length_cons, Nat.le_add_left, List.headD_cons, hb13, hbb, Ne.symm hbb, hb15, apS, apD, List.nil_append, List.cons_append, c1, hb17, c2]
            repeat with_reducible refine And.intro (by first | assumption | omega | (simp; done) | (simp; omega) | (intro hg; simp (config := { decide := true }) only [go_sem, hg]; done) | (intro hg; simp (config := { decide := true }) only [go_sem, hg]; omega)) ?_
            refine hκ _ _ ?_; clear hκ hξ ξ κ
            refine ⟨(j + 1, none), ⟨⟨by omega, (show apOK _ none from fun _ => ?_), fun b c h => by cases h⟩, by simp only; omega⟩, EnvLe.of_eq ?_, ?_⟩
            · simp only [kf_take (show j < ks.length by omega), kfP, decide_eq_false (show ¬ (((kat ks j).1 ≠ other ∧ (kat ks j).2.1 ≠ other) ∨ 0 < (cnt s other : Int)) by omega), Bool.false_eq_true, if_false]; exact hkn
            · rw [w64 (by omega)]; rfl
            · simp only [kf_take (show j < ks.length by omega), kfP, decide_eq_false (show ¬ (((kat ks j).1 ≠ other ∧ (kat ks j).2.1 ≠ other) ∨ 0 < (cnt s other : Int)) by omega), Bool.false_eq_true, if_false]; exact .refl _
        · try simp only [go_sem] at c1
          refine ex ?_
          refine sq ?_
          refine rg [1, 5, 11, 12, 13, 14, 15, 18, 19] [] [] (by kernel_rfl) ?_; intro κ ξ hκ hξ
          try simp (config := { decide := true }) only [go_sem, Nat.reduceMul, Nat.reduceAdd, Nat.reduceBEq, cond_false, c0, hi, hi2, hi0, hdr, hm, foldI, hq1, hq2, hset, hwm, hgl, hi1, List.length_cons, Nat.le_add_left, List.headD_cons, hb13, hbb, Ne.symm hbb, hb15, apS, apD, List.nil_append, List.cons_append, c1]
          repeat with_reducible refine And.intro (by first | assumption | omega | (simp; done) | (simp; omega) | (intro hg; simp (config := { decide := true }) only [go_sem, hg]; done) | (intro hg; simp (config := { decide := true }) only [go_sem, hg]; omega)) ?_
          refine callF (raw_w _ _ _ _ _) ?_
          try simp (config := { decide := true }) only [go_sem, Nat.reduceMul, Nat.reduceAdd, Nat.reduceBEq, cond_false, c0, hi, hi2, hi0, hdr, hm, foldI, hq1, hq2, hset, hwm, hgl, hi1, List.length_cons, Nat.le_add_left, List.headD_cons, hb13, hbb, Ne.symm hbb, hb15, apS, apD, List.nil_append, List.cons_append, c1]
          repeat with_reducible refine And.intro (by first | assumption | omega | (simp; done) | (simp; omega) | (intro hg; simp (config := { decide := true }) only [go_sem, hg]; done) | (intro hg; simp (config := { decide := true }) only [go_sem, hg]; omega)) ?_
          refine hκ _ _ ?_; clear hκ hξ ξ κ
          refine sq ?_
          refine rg [1, 5, 11, 12, 14, 15, 18, 19, 20, 21] [] [] (by kernel_rfl) ?_; intro κ ξ hκ hξ
          try simp (config := { decide := true }) only [go_sem, Nat.reduceMul, Nat.reduceAdd, Nat.reduceBEq, cond_false, c0, hi, hi2, hi0, hdr, hm, foldI, hq1, hq2, hset, hwm, hgl, hi1, List.length_cons, Nat.le_add_left, List.headD_cons, hb13, hbb, Ne.symm hbb, hb15, apS, apD, List.nil_append, List.cons_append, c1]
          repeat with_reducible refine And.intro (by first | assumption | omega | (simp; done) | (simp; omega) | (intro hg; simp (config := { decide := true }) only [go_sem, hg]; done) | (intro hg; simp (config := { decide := true }) only [go_sem, hg]; omega)) ?_
          refine callF (raw_w _ _ _ _ _) ?_
          try simp (config := { decide := true }) only [go_sem, Nat.reduceMul, Nat.reduceAdd, Nat.reduceBEq, cond_false, c0, hi, hi2, hi0, hdr, hm, foldI, hq1, hq2, hset, hwm, hgl, hi1, List.length_cons, Nat.le_add_left, List.headD_cons, hb13, hbb, Ne.symm hbb, hb15, apS, apD, List.nil_append, List.cons_append, c1]
          repeat with_reducible refine And.intro (by first | assumption | omega | (simp; done) | (simp; omega) | (intro hg; simp (config := { decide := true }) only [go_sem, hg]; done) | (intro hg; simp (config := { decide := true }) only [go_sem, hg]; omega)) ?_
          refine hκ _ _ ?_; clear hκ hξ ξ κ
          refine sq ?_
          refine rg [1, 5, 11, 12, 14, 18, 19, 20, 21, 22, 23] [] [] (by kernel_rfl) ?_; intro κ ξ hκ hξ
          try simp (config := { decide := true }) only [go_sem, Nat.reduceMul, Nat.reduceAdd, Nat.reduceBEq, cond_false, c0, hi, hi2, hi0, hdr, hm, foldI, hq1, hq2, hset, hwm, hgl, hi1, List.length_cons, Nat.le_add_left, List.headD_cons, hb13, hbb, Ne.symm hbb, hb15, apS, apD, List.nil_append, List.cons_append, c1]
          repeat with_reducible refine And.intro (by first | assumption | omega | (simp; done) | (simp; omega) | (intro hg; simp (config := { decide := true }) only [go_sem, hg]; done) | (intro hg; simp (config := { decide := true }) only [go_sem, hg]; omega)) ?_
          first
          | refine callF (raw_nil _ _ _) ?_
          | refine callF (raw_w _ _ _ _ _) ?_
          try simp (config := { decide := true }) only [go_sem, Nat.reduceMul, Nat.reduceAdd, Nat.reduceBEq, cond_false, c0, hi, hi2, hi0, hdr, hm, foldI, hq1, hq2, hset, hwm, hgl, hi1, List.length_cons, Nat.le_add_left, List.headD_cons, hb13, hbb, Ne.symm hbb, hb15, apS, apD, List.nil_append, List.cons_append, c1]
          repeat with_reducible refine And.intro (by first | assumption | omega | (simp; done) | (simp; omega) | (intro hg; simp (config := { decide := true }) only [go_sem, hg]; done) | (intro hg; simp (config := { decide := true }) only [go_sem, hg]; omega)) ?_
          refine hκ _ _ ?_; clear hκ hξ ξ κ
          refine sq ?_
          refine sq ?_
          refine rg [1, 5, 11, 12, 14, 18, 20, 22, 130] [] [(2, 123), (6, 127)] (by kernel_rfl) ?_; intro κ ξ hκ hξ
          try simp (config := { decide := true }) only [go_sem, Nat.reduceMul, Nat.reduceAdd, Nat.reduceBEq, cond_false, c0, hi, hi2, hi0, hdr, hm, foldI, hq1, hq2, hset, hwm, hgl, hi1, List.length_cons, Nat.le_add_left, List.headD_cons, hb13, hbb, Ne.symm hbb, hb15, apS, apD, List.nil_append, List.cons_append, c1]
          repeat with_reducible refine And.intro (by first | assumption | omega | (simp; done) | (simp; omega) | (intro hg; simp (config := { decide := true }) only [go_sem, hg]; done) | (intro hg; simp (config := { decide := true }) only [go_sem, hg]; omega)) ?_
          refine hκ _ _ ?_; clear hκ hξ ξ κ
          refine cd (by rfl) (fun c3 => ?_) (fun c3 => ?_)
          · try simp only [go_sem] at c3
            refine sq ?_
            refine rg [10] [] [] (by kernel_rfl) ?_; intro κ ξ hκ hξ
            try simp (config := { decide := true }) only [go_sem, Nat.reduceMul, Nat.reduceAdd, Nat.reduceBEq, cond_false, c0, hi, hi2, hi0, hdr, hm, foldI, hq1, hq2, hset, hwm, hgl, hi1, List.length_cons, Nat.le_add_left, List.headD_cons, hb13, hbb, Ne.symm hbb, hb15, apS, apD, List.nil_append, List.cons_append, c1, c3]
            repeat with_reducible refine And.intro (by first | assumption | omega | (simp; done) | (simp; omega) | (intro hg; simp (config := { decide := true }) only [go_sem, hg]; done) | (intro hg; simp (config := { decide := true }) only [go_sem, hg]; omega)) ?_
            refine hκ _ _ ?_; clear hκ hξ ξ κ
            refine rt ?_
            refine retE ?_
            simp (config := { decide := true }) only [go_sem, resD, resV, c0, hi, hi2, hi0, hdr, hm, foldI, hq1, hq2, hset, hwm, hgl, hi1, List.length_cons, Nat.le_add_left, List.headD_cons, hb13, hbb, Ne.symm hbb, hb15, apS, apD, List.nil_append, List.cons_append, c1, c3]
            obtain rfl : j = ks.length := by omega
            rw [List.take_length, List.map_eq_nil_iff] at hkn
            rw [hkn] at v3 v5
            rw [← hg2] at v2 v4
            exfalso; revert c3; simp [v1, v2, v3]
          · try simp only [go_sem] at c3
            refine sk ?_
            refine sq ?_
            refine rg [11, 14, 18, 20, 22, 24] [] [] (by kernel_rfl) ?_; intro κ ξ hκ hξ
            try simp (config := { decide := true }) only [go_sem, Nat.reduceMul, Nat.reduceAdd, Nat.reduceBEq, cond_false, c0, hi, hi2, hi0, hdr, hm, foldI, hq1, hq2, hset, hwm, hgl, hi1, List.length_cons, Nat.le_add_left, List.headD_cons, hb13, hbb, Ne.symm hbb, hb15, apS, apD, List.nil_append, List.cons_append, c1, c3]
            repeat with_reducible refine And.intro (by first | assumption | omega | (simp; done) | (simp; omega) | (intro hg; simp (config := { decide := true }) only [go_sem, hg]; done) | (intro hg; simp (config := { decide := true }) only [go_sem, hg]; omega)) ?_
            refine callF (count_w _ _) ?_
            try simp (config := { decide := true }) only [go_sem, Nat.reduceMul, Nat.reduceAdd, Nat.reduceBEq, cond_false, c0, hi, hi2, hi0, hdr, hm, foldI, hq1, hq2, hset, hwm, hgl, hi1, List.length_cons, Nat.le_add_left, List.headD_cons, hb13, hbb, Ne.symm hbb, hb15, apS, apD, List.nil_append, List.cons_append, c1, c3]
            repeat with_reducible refine And.intro (by first | assumption | omega | (simp; done) | (simp; omega) | (intro hg; simp (config := { decide := true }) only [go_sem, hg]; done) | (intro hg; simp (config := { decide := true }) only [go_sem, hg]; omega)) ?_
            refine hκ _ _ ?_; clear hκ hξ ξ κ
            refine sq ?_
            refine rg [10] [] [(1, 140), (10, 149)] (by kernel_rfl) ?_; intro κ ξ hκ hξ
            try simp (config := { decide := true }) only [go_sem, Nat.reduceMul, Nat.reduceAdd, Nat.reduceBEq, cond_false, c0, hi, hi2, hi0, hdr, hm, foldI, hq1, hq2, hset, hwm, hgl, hi1, List.length_cons, Nat.le_add_left, List.headD_cons, hb13, hbb, Ne.symm hbb, hb15, apS, apD, List.nil_append, List.cons_append, c1, c3]
            repeat with_reducible refine And.intro (by first | assumption | omega | (simp; done) | (simp; omega) | (intro hg; simp (config := { decide := true }) only [go_sem, hg]; done) | (intro hg; simp (config := { decide := true }) only [go_sem, hg]; omega)) ?_
            refine hκ _ _ ?_; clear hκ hξ ξ κ
            refine rt ?_
            refine retE ?_
            simp (config := { decide := true }) only [go_sem, resD, resV, c0, hi, hi2, hi0, hdr, hm, foldI, hq1, hq2, hset, hwm, hgl, hi1, List.length_cons, Nat.le_add_left, List.headD_cons, hb13, hbb, Ne.symm hbb, hb15, apS, apD, List.nil_append, List.cons_append, c1, c3]
            obtain rfl : j = ks.length := by omega
            rw [List.take_length, List.map_eq_nil_iff] at hkn
            rw [hkn] at v3 v5
            rw [← hg2] at v2 v4
            simp only [v4, v5]
            rw [w64 (n := ((cnt s (gat gs i).1 : Nat) : Int) * m) (by omega), w64 (by omega)]
            simp
      · obtain ⟨hob1, hob2⟩ := hob bo co rfl
        refine rg [1, 4, 5, 11, 12, 13, 14, 15, 74, 75, 76, 77] [] [] (by kernel_rfl) ?_; intro κ ξ hκ hξ
        try simp (config := { decide := true }) only [go_sem, Nat.reduceMul, Nat.reduceAdd, Nat.reduceBEq, cond_false, c0, hi, hi2, hi0, hdr, hm, foldI, hq1, hq2, hset, hwm, hgl, hi1, List.length_cons, Nat.le_add_left, List.headD_cons, hb13, hbb, Ne.symm hbb, hb15, hob1, hob2, Ne.symm hob1, Ne.symm hob2, apS, apD, List.nil_append, List.cons_append]
        repeat with_reducible refine And.intro (by first | assumption | omega | (simp; done) | (simp; omega) | (intro hg; simp (config := { decide := true }) only [go_sem, hg]; done) | (intro hg; simp (config := { decide := true }) only [go_sem, hg]; omega)) ?_
        refine hκ _ _ ?_; clear hκ hξ ξ κ
        refine sq ?_
        refine cd (by rfl) (fun c4 => ?_) (fun c4 => ?_)
        · try simp only [go_sem] at c4
          refine sk ?_
          refine sq ?_
          refine bl ?_
          refine sq ?_
          refine rgz [(17, [])] [1, 4, 5, 11, 12, 13, 14, 15, 17, 74, 75, 76] [] [] (by kernel_rfl) ?_; intro κ ξ hκ hξ
          try simp (config := { decide := true }) only [go_sem, Nat.reduceMul, Nat.reduceAdd, Nat.reduceBEq, cond_false, c0, hi, hi2, hi0, hdr, hm, foldI, hq1, hq2, hset, hwm, hgl, hi1, List.length_cons, Nat.le_add_left, List.headD_cons, hb13, hbb, Ne.symm hbb, hb15, hob1, hob2, Ne.symm hob1, Ne.symm hob2, apS, apD, List.nil_append, List.cons_append, c4]
          repeat with_reducible refine And.intro (by first | assumption | omega | (simp; done) | (simp; omega) | (intro hg; simp (config := { decide := true }) only [go_sem, hg]; done) | (intro hg; simp (config := { decide := true }) only [go_sem, hg]; omega)) ?_
          intro b17 hb17
          try simp (config := { decide := true }) only [go_sem, Nat.reduceMul, Nat.reduceAdd, Nat.reduceBEq, cond_false, c0, hi, hi2, hi0, hdr, hm, foldI, hq1, hq2, hset, hwm, hgl, hi1, List.length_cons, Nat.le_add_left, List.headD_cons, hb13, hbb, Ne.symm hbb, hb15, hob1, hob2, Ne.symm hob1, Ne.symm hob2, apS, apD, List.nil_append, List.cons_append, c4, hb17]
          repeat with_reducible refine And.intro (by first | assumption | omega | (simp; done) | (simp; omega) | (intro hg; simp (config := { decide := true }) only [go_sem, hg]; done) | (intro hg; simp (config := { decide := true }) only [go_sem, hg]; omega)) ?_
          refine hκ _ _ ?_; clear hκ hξ ξ κ
          refine sq ?_
          refine rg [1, 4, 5, 11, 12, 13, 14, 15, 17, 74, 75, 76, 95] [] [(4, 84), (10, 90)] (by kernel_rfl) ?_; intro κ ξ hκ hξ
          try simp (config := { decide := true }) only [go_sem, Nat.reduceMul, Nat.reduceAdd, Nat.reduceBEq, cond_false, c0, hi, hi2, hi0, hdr, hm, foldI, hq1, hq2, hset, hwm, hgl, hi1, List.length_cons, Nat.le_add_left, List.headD_cons, hb13, hbb, Ne.symm hbb, hb15, hob1, hob2, Ne.symm hob1, Ne.symm hob2, apS, apD, List.nil_append, List.cons_append, c4, hb17]
          repeat with_reducible refine And.intro (by first | assumption | omega | (simp; done) | (simp; omega) | (intro hg; simp (config := { decide := true }) only [go_sem, hg]; done) | (intro hg; simp (config := { decide := true }) only [go_sem, hg]; omega)) ?_
          refine vo_gc ?_; simp (config := { decide := true }) only [go_sem, c0, hi, hi2, hi0, hdr, hm, foldI, hq1, hq2, hset, hwm, hgl, hi1, List.length_cons, Nat.le_add_left, List.headD_cons, hb13, hbb, Ne.symm hbb, hb15, hob1, hob2, Ne.symm hob1, Ne.symm hob2, apS, apD, List.nil_append, List.cons_append, c4, hb17]; refine gcallF (fun hg => ⟨by first | rfl | (simp (config := { decide := true }) only [go_sem, hg, c0, hi, hi2, hi0, hdr, hm, foldI, hq1, hq2, hset, hwm, hgl, hi1, List.length_cons, Nat.le_add_left, List.headD_cons, hb13, hbb, Ne.symm hbb, hb15, hob1, hob2, Ne.symm hob1, Ne.symm hob2, apS, apD, List.nil_append, List.cons_append, c4, hb17]; done) | exact hg | simpa using hg, count_w _ _⟩) ?_
          try simp (config := { decide := true }) only [go_sem, Nat.reduceMul, Nat.reduceAdd, Nat.reduceBEq, cond_false, c0, hi, hi2, hi0, hdr, hm, foldI, hq1, hq2, hset, hwm, hgl, hi1, List.length_cons, Nat.le_add_left, List.headD_cons, hb13, hbb, Ne.symm hbb, hb15, hob1, hob2, Ne.symm hob1, Ne.symm hob2, apS, apD, List.nil_append, List.cons_append, c4, hb17]
          repeat with_reducible refine And.intro (by first | assumption | omega | (simp; done) | (simp; omega) | (intro hg; simp (config := { decide := true }) only [go_sem, hg]; done) | (intro hg; simp (config := { decide := true }) only [go_sem, hg]; omega)) ?_
          refine hκ _ _ ?_; clear hκ hξ ξ κ
          refine cd (by rfl) (fun c5 => ?_) (fun c5 => ?_)
          · try simp only [go_sem] at c5
            refine rg [1, 4, 5, 11, 12, 13, 14, 15, 74, 75, 76] [] [] (by kernel_rfl) ?_; intro κ ξ hκ hξ
            try simp (config := { decide := true }) only [go_sem, Nat.reduceMul, Nat.reduceAdd, Nat.reduceBEq, cond_false, c0, hi, hi2, hi0, hdr, hm, foldI, hq1, hq2, hset, hwm, hgl, hi1, List.length_cons, Nat.le_add_left, List.headD_cons, hb13, hbb, Ne.symm hbb, hb15, hob1, hob2, Ne.symm hob1, Ne.symm hob2, apS, apD, List.nil_append, List.cons_append, c4, hb17, c5]
            repeat with_reducible refine And.intro (by first | assumption | omega | (simp; done) | (simp; omega) | (intro hg; simp (config := { decide := true }) only [go_sem, hg]; done) | (intro hg; simp (config := { decide := true }) only [go_sem, hg]; omega)) ?_
            first
            | refine napp_growN (o := none) (rows := (kf (ks.take j) s other).map krow) (ρ := [(b15, _), (b13, _)]) ho (apFr_none _) (List.length_map ..) rfl rfl (by simp (config := { decide := true }) only [go_sem, Option.isSome_some]) tf86 tf87 tf150 (by refine ⟨⟨rfl, by decide, by decide⟩, by simp (config := { decide := true }) only [go_sem], by simp, ?_⟩; simp [capB]; omega) ?_
            | refine napp_growN (o := some (bo, co)) (rows := (kf (ks.take j) s other).map krow) (ρ := [(b15, _), (b13, _)]) ho (apFr_some (by simp [Store.keys, hob1, hob2, Ne.symm hob1, Ne.symm hob2])) (List.length_map ..) rfl rfl (by simp (config := { decide := true }) only [go_sem, Option.isSome_some]) tf86 tf87 tf150 (by refine ⟨⟨rfl, by decide, by decide⟩, by simp (config := { decide := true }) only [go_sem], by simp, ?_⟩; simp [capB]; omega) ?_
            intro b100 c100 hb100
            have hb1 : b15 ≠ b100 := fun e => hb100 (by simp [Store.keys, e])
            have hb2 : b13 ≠ b100 := fun e => hb100 (by simp [Store.keys, e])
            try simp (config := { decide := true }) only [go_sem, Nat.reduceMul, Nat.reduceAdd, Nat.reduceBEq, cond_false, c0, hi, hi2, hi0, hdr, hm, foldI, hq1, hq2, hset, hwm, hgl, hi1, List.length_cons, Nat.le_add_left, List.headD_cons, hb13, hbb, Ne.symm hbb, hb15, hob1, hob2, Ne.symm hob1, Ne.symm hob2, apS, apD, List.nil_append, List.cons_append, c4, hb17, c5, hb1, hb2]
            repeat with_reducible refine And.intro (by first | assumption | omega | (simp; done) | (simp; omega) | (intro hg; simp (config := { decide := true }) only [go_sem, hg]; done) | (intro hg; simp (config := { decide := true }) only [go_sem, hg]; omega)) ?_
            refine hκ _ _ ?_; clear hκ hξ ξ κ
            refine rg [1, 4, 5, 11, 12, 13, 14, 15, 74, 75, 76] [] [] (by kernel_rfl) ?_; intro κ ξ hκ hξ
            try simp (config := { decide := true }) only [go_sem, Nat.reduceMul, Nat.reduceAdd, Nat.reduceBEq, cond_false, c0, hi, hi2, hi0, hdr, hm, foldI, hq1, hq2, hset, hwm, hgl, hi1, List.length_cons, Nat.le_add_left, List.headD_cons, hb13, hbb, Ne.symm hbb, hb15, hob1, hob2, Ne.symm hob1, Ne.symm hob2, apS, apD, List.nil_append, List.cons_append, c4, hb17, c5, hb1, hb2]
            repeat with_reducible refine And.intro (by first | assumption | omega | (simp; done) | (simp; omega) | (intro hg; simp (config := { decide := true }) only [go_sem, hg]; done) | (intro hg; simp (config := { decide := true }) only [go_sem, hg]; omega)) ?_
            refine hκ _ _ ?_; clear hκ hξ ξ κ
            refine ⟨(j + 1, some (b100, c100)), ⟨⟨by omega, (show apOK _ (some _) from fun h => by cases h), fun b c h => by cases h; exact ⟨Ne.symm hb1, Ne.symm hb2⟩⟩, by simp only; omega⟩, EnvLe.of_eq ?_, ?_⟩
            · rw [w64 (by omega)]; rfl
            · simp only [kf_take (show j < ks.length by omega), kfP, decide_eq_true (show ((kat ks j).1 ≠ other ∧ (kat ks j).2.1 ≠ other) ∨ 0 < (cnt s other : Int) by omega), if_true, List.map_append, List.length_append]; exact .refl _
          · try simp only [go_sem] at c5
            refine sk ?_
            refine rg [1, 4, 5, 11, 12, 13, 14, 15, 74, 75, 76] [] [] (by kernel_rfl) ?_; intro κ ξ hκ hξ
            try simp (config := { decide := true }) only [go_sem, Nat.reduceMul, Nat.reduceAdd, Nat.reduceBEq, cond_false, c0, hi, hi2, hi0, hdr, hm, foldI, hq1, hq2, hset, hwm, hgl, hi1, List.length_cons, Nat.le_add_left, List.headD_cons, hb13, hbb, Ne.symm hbb, hb15, hob1, hob2, Ne.symm hob1, Ne.symm hob2, apS, apD, List.nil_append, List.cons_append, c4, hb17, c5]
            repeat with_reducible refine And.intro (by first | assumption | omega | (simp; done) | (simp; omega) | (intro hg; simp (config := { decide := true }) only [go_sem, hg]; done) | (intro hg; simp (config := { decide := true }) only [go_sem, hg]; omega)) ?_
            refine hκ _ _ ?_; clear hκ hξ ξ κ
            refine ⟨(j + 1, some (bo, co)), ⟨⟨by omega, (show apOK _ (some _) from fun h => by cases h), fun b c h => by cases h; exact ⟨hob1, hob2⟩⟩, by simp only; omega⟩, EnvLe.of_eq ?_, ?_⟩
            · rw [w64 (by omega)]; rfl
            · simp only [kf_take (show j < ks.length by omega), kfP, decide_eq_false (show ¬ (((kat ks j).1 ≠ other ∧ (kat ks j).2.1 ≠ other) ∨ 0 < (cnt s other : Int)) by omega), Bool.false_eq_true, if_false]; exact .refl _
        · try simp only [go_sem] at c4
          refine ex ?_
          refine sq ?_
          refine rg [1, 5, 11, 12, 13, 14, 15, 18, 19] [] [] (by kernel_rfl) ?_; intro κ ξ hκ hξ
          try simp (config := { decide := true }) only [go_sem, Nat.reduceMul, Nat.reduceAdd, Nat.reduceBEq, cond_false, c0, hi, hi2, hi0, hdr, hm, foldI, hq1, hq2, hset, hwm, hgl, hi1, List.length_cons, Nat.le_add_left, List.headD_cons, hb13, hbb, Ne.symm hbb, hb15, hob1, hob2, Ne.symm hob1, Ne.symm hob2, apS, apD, List.nil_append, List.cons_append, c4]
          repeat with_reducible refine And.intro (by first | assumption | omega | (simp; done) | (simp; omega) | (intro hg; simp (config := { decide := true }) only [go_sem, hg]; done) | (intro hg; simp (config := { decide := true }) only [go_sem, hg]; omega)) ?_
          refine callF (raw_w _ _ _ _ _) ?_
          try simp (config := { decide := true }) only [go_sem, Nat.reduceMul, Nat.reduceAdd, Nat.reduceBEq, cond_false, c0, hi, hi2, hi0, hdr, hm, foldI, hq1, hq2, hset, hwm, hgl, hi1, List.length_cons, Nat.le_add_left, List.headD_cons, hb13, hbb, Ne.symm hbb, hb15, hob1, hob2, Ne.symm hob1, Ne.symm hob2, apS, apD, List.nil_append, List.cons_append, c4]
          repeat with_reducible refine And.intro (by first | assumption | omega | (simp; done) | (simp; omega) | (intro hg; simp (config := { decide := true }) only [go_sem, hg]; done) | (intro hg; simp (config := { decide := true }) only [go_sem, hg]; omega)) ?_
          refine hκ _ _ ?_; clear hκ hξ ξ κ
          refine sq ?_
          refine rg [1, 5, 11, 12, 14, 15, 18, 19, 20, 21] [] [] (by kernel_rfl) ?_; intro κ ξ hκ hξ
          try simp (config := { decide := true }) only [go_sem, Nat.reduceMul, Nat.reduceAdd, Nat.reduceBEq, cond_false, c0, hi, hi2, hi0, hdr, hm, foldI, hq1, hq2, hset, hwm, hgl, hi1, List.length_cons, Nat.le_add_left, List.headD_cons, hb13, hbb, Ne.symm hbb, hb15, hob1, hob2, Ne.symm hob1, Ne.symm hob2, apS, apD, List.nil_append, List.cons_append, c4]
          repeat with_reducible refine And.intro (by first | assumption | omega | (simp; done) | (simp; omega) | (intro hg; simp (config := { decide := true }) only [go_sem, hg]; done) | (intro hg; simp (config := { decide := true }) only [go_sem, hg]; omega)) ?_
          refine callF (raw_w _ _ _ _ _) ?_
          try simp (config := { decide := true }) only [go_sem, Nat.reduceMul, Nat.reduceAdd, Nat.reduceBEq, cond_false, c0, hi, hi2, hi0, hdr, hm, foldI, hq1, hq2, hset, hwm, hgl, hi1, List.length_cons, Nat.le_add_left, List.headD_cons, hb13, hbb, Ne.symm hbb, hb15, hob1, hob2, Ne.symm hob1, Ne.symm hob2, apS, apD, List.nil_append, List.cons_append, c4]
          repeat with_reducible refine And.intro (by first | assumption | omega | (simp; done) | (simp; omega) | (intro hg; simp (config := { decide := true }) only [go_sem, hg]; done) | (intro hg; simp (config := { decide := true }) only [go_sem, hg]; omega)) ?_
          refine hκ _ _ ?_; clear hκ hξ ξ κ
          refine sq ?_
          refine rg [1, 5, 11, 12, 14, 18, 19, 20, 21, 22, 23] [] [] (by kernel_rfl) ?_; intro κ ξ hκ hξ
          try simp (config := { decide := true }) only [go_sem, Nat.reduceMul, Nat.reduceAdd, Nat.reduceBEq, cond_false, c0, hi, hi2, hi0, hdr, hm, foldI, hq1, hq2, hset, hwm, hgl, hi1, List.length_cons, Nat.le_add_left, List.headD_cons, hb13, hbb, Ne.symm hbb, hb15, hob1, hob2, Ne.symm hob1, Ne.symm hob2, apS, apD, List.nil_append, List.cons_append, c4]
          repeat with_reducible refine And.intro (by first | assumption | omega | (simp; done) | (simp; omega) | (intro hg; simp (config := { decide := true }) only [go_sem, hg]; done) | (intro hg; simp (config := { decide := true }) only [go_sem, hg]; omega)) ?_
          first
          | refine callF (raw_nil _ _ _) ?_
          | refine callF (raw_w _ _ _ _ _) ?_
          try simp (config := { decide := true }) only [go_sem, Nat.reduceMul, Nat.reduceAdd, Nat.reduceBEq, cond_false, c0, hi, hi2, hi0, hdr, hm, foldI, hq1, hq2, hset, hwm, hgl, hi1, List.length_cons, Nat.le_add_left, List.headD_cons, hb13, hbb, Ne.symm hbb, hb15, hob1, hob2, Ne.symm hob1, Ne.symm hob2, apS, apD, List.nil_append, List.cons_append, c4]
          repeat with_reducible refine And.intro (by first | assumption | omega | (simp; done) | (simp; omega) | (intro hg; simp (config := { decide := true }) only [go_sem, hg]; done) | (intro hg; simp (config := { decide := true }) only [go_sem, hg]; omega)) ?_
          refine hκ _ _ ?_; clear hκ hξ ξ κ
          refine sq ?_
          refine sq ?_
          refine rg [1, 5, 11, 12, 14, 18, 20, 22, 130] [] [(2, 123), (6, 127)] (by kernel_rfl) ?_; intro κ ξ hκ hξ
          try simp (config := { decide := true }) only [go_sem, Nat.reduceMul, Nat.reduceAdd, Nat.reduceBEq, cond_false, c0, hi, hi2, hi0, hdr, hm, foldI, hq1, hq2, hset, hwm, hgl, hi1, List.length_cons, Nat.le_add_left, List.headD_cons, hb13, hbb, Ne.symm hbb, hb15, hob1, hob2, Ne.symm hob1, Ne.symm hob2, apS, apD, List.nil_append, List.cons_append, c4]
          repeat with_reducible refine And.intro (by first | assumption | omega | (simp; done) | (simp; omega) | (intro hg; simp (config := { decide := true }) only [go_sem, hg]; done) | (intro hg; simp (config := { decide := true }) only [go_sem, hg]; omega)) ?_
          refine hκ _ _ ?_; clear hκ hξ ξ κ
          refine cd (by rfl) (fun c6 => ?_) (fun c6 => ?_)
          · try simp only [go_sem] at c6
            refine sq ?_
            refine rg [10] [] [] (by kernel_rfl) ?_; intro κ ξ hκ hξ
            try simp (config := { decide := true }) only [go_sem, Nat.reduceMul, Nat.reduceAdd, Nat.reduceBEq, cond_false, c0, hi, hi2, hi0, hdr, hm, foldI, hq1, hq2, hset, hwm, hgl, hi1, List.length_cons, Nat.le_add_left, List.headD_cons, hb13, hbb, Ne.symm hbb, hb15, hob1, hob2, Ne.symm hob1, Ne.symm hob2, apS, apD, List.nil_append, List.cons_append, c4, c6]
            repeat with_reducible refine And.intro (by first | assumption | omega | (simp; done) | (simp; omega) | (intro hg; simp (config := { decide := true }) only [go_sem, hg]; done) | (intro hg; simp (config := { decide := true }) only [go_sem, hg]; omega)) ?_
            refine hκ _ _ ?_; clear hκ hξ ξ κ
            refine rt ?_
            refine retE ?_
            simp (config := { decide := true }) only [go_sem, resD, resV, c0, hi, hi2, hi0, hdr, hm, foldI, hq1, hq2, hset, hwm, hgl, hi1, List.length_cons, Nat.le_add_left, List.headD_cons, hb13, hbb, Ne.symm hbb, hb15, hob1, hob2, Ne.symm hob1, Ne.symm hob2, apS, apD, List.nil_append, List.cons_append, c4, c6]
            obtain rfl : j = ks.length := by omega
            rw [List.take_length] at *
            rw [← hg2] at v2 v4
            exfalso; revert c6; simp [v1, v2, v3]
          · try simp only [go_sem] at c6
            refine sk ?_
            refine sq ?_
            refine rg [11, 14, 18, 20, 22, 24] [] [] (by kernel_rfl) ?_; intro κ ξ hκ hξ
            try simp (config := { decide := true }) only [go_sem, Nat.reduceMul, Nat.reduceAdd, Nat.reduceBEq, cond_false, c0, hi, hi2, hi0, hdr, hm, foldI, hq1, hq2, hset, hwm, hgl, hi1, List.length_cons, Nat.le_add_left, List.headD_cons, hb13, hbb, Ne.symm hbb, hb15, hob1, hob2, Ne.symm hob1, Ne.symm hob2, apS, apD, List.nil_append, List.cons_append, c4, c6]
            repeat with_reducible refine And.intro (by first | assumption | omega | (simp; done) | (simp; omega) | (intro hg; simp (config := { decide := true }) only [go_sem, hg]; done) | (intro hg; simp (config := { decide := true }) only [go_sem, hg]; omega)) ?_
            refine callF (count_w _ _) ?_
            try simp (config := { decide := true }) only [go_sem, Nat.reduceMul, Nat.reduceAdd, Nat.reduceBEq, cond_false, c0, hi, hi2, hi0, hdr, hm, foldI, hq1, hq2, hset, hwm, hgl, hi1, List.length_cons, Nat.le_add_left, List.headD_cons, hb13, hbb, Ne.symm hbb, hb15, hob1, hob2, Ne.symm hob1, Ne.symm hob2, apS, apD, List.nil_append, List.cons_append, c4, c6]
            repeat with_reducible refine And.intro (by first | assumption | omega | (simp; done) | (simp; omega) | (intro hg; simp (config := { decide := true }) only [go_sem, hg]; done) | (intro hg; simp (config := { decide := true }) only [go_sem, hg]; omega)) ?_
            refine hκ _ _ ?_; clear hκ hξ ξ κ
            refine sq ?_
            refine rg [10] [] [(1, 140), (10, 149)] (by kernel_rfl) ?_; intro κ ξ hκ hξ
            try simp (config := { decide := true }) only [go_sem, Nat.reduceMul, Nat.reduceAdd, Nat.reduceBEq, cond_false, c0, hi, hi2, hi0, hdr, hm, foldI, hq1, hq2, hset, hwm, hgl, hi1, List.length_cons, Nat.le_add_left, List.headD_cons, hb13, hbb, Ne.symm hbb, hb15, hob1, hob2, Ne.symm hob1, Ne.symm hob2, apS, apD, List.nil_append, List.cons_append, c4, c6]
            repeat with_reducible refine And.intro (by first | assumption | omega | (simp; done) | (simp; omega) | (intro hg; simp (config := { decide := true }) only [go_sem, hg]; done) | (intro hg; simp (config := { decide := true }) only [go_sem, hg]; omega)) ?_
            refine hκ _ _ ?_; clear hκ hξ ξ κ
            refine rt ?_
            refine retE ?_
            simp (config := { decide := true }) only [go_sem, resD, resV, c0, hi, hi2, hi0, hdr, hm, foldI, hq1, hq2, hset, hwm, hgl, hi1, List.length_cons, Nat.le_add_left, List.headD_cons, hb13, hbb, Ne.symm hbb, hb15, hob1, hob2, Ne.symm hob1, Ne.symm hob2, apS, apD, List.nil_append, List.cons_append, c4, c6]
            obtain rfl : j = ks.length := by omega
            rw [List.take_length] at *
            rw [← hg2] at v2 v4
            simp only [v4, v5]
            rw [w64 (n := ((cnt s (gat gs i).1 : Nat) : Int) * m) (by omega), w64 (by omega)]
            simp

end Go.Proofs.Ytllimenhdemgoaa

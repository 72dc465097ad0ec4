/- The walks of the reference's selector. Printed by a tool of our own. -/
import Derived.Test.YtgccnkihonmlbaaSg
namespace Go.Proofs.Ytgccnkihonmlbaa
open Go Go.RowKit
set_option linter.unusedSimpArgs false
set_option linter.unusedVariables false
set_option maxHeartbeats 4000000
set_option maxRecDepth 100000
attribute [local go_sem ↓] vo_nil vK_eq vo_q vo_g vo_n vo_c vd_nil dK_eq eK_eq vd_q vd_g vd_n vd_st vd_c cgs_call cgs_builtin
attribute [local go_sem] Ext_refl Ext_cons
attribute [local go_sem] quiet_move quiet_assign quiet_pick quiet_binOp quiet_unOp quiet_convert quiet_field quiet_fieldAddr quiet_indexAddr quiet_index quiet_load quiet_lookup quiet_extract quiet_build quiet_makeInterface quiet_makeFunc quiet_slice quiet_nilCheck quiet_alloc isCall_alloc quiet_box isCall_box quiet_buildSlice isCall_buildSlice quiet_store isCall_store quiet_range isCall_range quiet_next isCall_next quiet_makeSlice isCall_makeSlice quiet_panic isCall_panic quiet_len quiet_cap quiet_min quiet_max quiet_append isCall_append quiet_copy isCall_copy quiet_delete isCall_delete nqk_alloc nqk_box nqk_buildSlice nqk_range nqk_next nqk_makeSlice nqk_panic nqk_makeMap nqk_entry nqk_append nqk_copy nqk_delete isSt_alloc isSt_box isSt_buildSlice isSt_range isSt_next isSt_makeSlice isSt_panic isSt_makeMap isSt_entry isSt_store isSt_mapUpdate isSt_insert isSt_append isSt_copy isSt_delete quiet_makeMap isCall_makeMap quiet_mapUpdate isCall_mapUpdate quiet_insert isCall_insert
attribute [local go_sem] argEnv qev opd put_some put_none set_at mk_cons mk_nil prune_eq D.ofV ofC_int ofC_nil ofC_str ofC_nilmap ofC_nilfunc ofC_nilptr true_and ofC_bool bop isSh ibop Bool.false_eq_true if_false if_true and_self D.core D.cg qpick isB bof gval look Option.bind_some opc cgs Op.operands List.all_cons List.all_nil Bool.and_true and_true true_imp_iff imp_self false_imp_iff beq_true beq_false beq_iff_eq decide_eq_true_eq List.map_cons List.map_nil Bool.not_eq_true' decide_eq_false_iff_not gof gq gev cond_some Option.isSome_some Bool.or_eq_true Bool.and_eq_true Bool.or_eq_false_iff Bool.and_eq_false_iff Bool.not_eq_true Bool.not_eq_false Bool.not_eq_false' ne_eq implies_true forall_const Bool.cond_true_left Bool.cond_false_right not_false_eq_true not_true_eq_false Int.toNat_natCast Int.toNat_zero
attribute [local go_sem] qbuiltin qlook ments foldI mget mput keqD keyOK lookD_s lookD_n lookD_fs lookD_fn nput agop deqF deq1 nappZ cond_true cond_false Option.getD_some Option.getD_none Option.isSome_none ite_self qindex qslice qconv qextract qfield qfaddr qiaddr qload quop qiface qbuild qnil ldC ldD ob List.drop_succ_cons take_mapr drop_mapr List.drop_zero List.take_succ_cons List.take_zero List.length_cons List.length_nil List.getElem?_cons_zero List.getElem?_cons_succ Option.map_some Option.map_none List.head?_cons
attribute [local go_sem] nev isImm List.contains_cons List.contains_nil Bool.or_false Bool.or_true D.flat D.cellsOf D.isCell Bool.or_self Bool.and_self szOf nstore Store.get Store.upd putCells nk_cons not_or FZ frzE_mk frzL inL frz Store.del or_false boxCells List.headD_cons List.headD_nil List.nil_append List.append_nil List.cons_append List.drop_nil false_and and_false false_or true_or or_true Bool.false_and Bool.true_and Bool.false_or Bool.true_or Bool.and_false setPs lim_eq chunk zrep pls_eq plsF fillD resAll shop sbop bbop decide_true decide_false Bool.not_true Bool.not_false eq_self
attribute [local go_sem] tf0 tf1 tf2 tf3 tf4 tf5 tf6 tf7 tf8 tf9 tf10 tf11 tf12 tf13 tf14 tf15 tf16 tf17 tf18 tf19 tf20 tf21 tf22 tf23 tf24 tf25 tf26 tf27 tf28 tf29 tf30 tf31 tf32 tf33 tf34 tf35 tf36 tf37 tf38 tf39 tf40 tf41 tf42 tf43 tf44 tf45 tf46 tf47 tf48 tf49 tf50 tf51 tf52 tf53 tf54 tf55 tf56 tf57 tf58 tf59 tf60 tf61 tf62 tf63 tf64 tf65 tf66 tf67 tf68 tf69 tf70 tf71 tf72 tf73 tf74 tf75 tf76 tf77 tf78 tf79 tf80 tf81 tf82 tf83 tf84 tf85 tf86 tf87 tf88 tf89 tf90 tf91 tf92 tf93 tf94 tf95 tf96 tf97 tf98 tf99 tf100 tf101 tf102 tf103 tf104 tf105 tf106 tf107 tf108 tf109 tf110 tf111 tf112 tf113 tf114 tf115 tf116 tf117 tf118 tf119 tf120 tf121 tf122 tf123 tf124 tf125 tf126 tf127 tf128 tf129 tf130 tf131 tf132 tf133 tf134 tf135 tf136 tf137 tf138 tf139 tf140 tf141 tf142 tf143 tf144 tf145 tf146 tf147 tf148 tf149 tf150 tf151 tf152 tf153 tf154 tf155 tf156 tf157 tf158 tf159 tf160 tf161 tf162 tf163 tf164 tf165 tf166 tf167 tf168 tf169 tf170 tf171 tf172 tf173 tf174 tf175 tf176 tf177 tf178 tf179 tf180 tf181 tf182 tf183 tf184 tf185 tf186 tf187 tf188 tf189 tf190 tf191 tf192 tf193 tf194 tf195 tf196 tf197 tf198 tf199 tf200 tf201 tf202 tf203 tf204 tf205 tf206 tf207 tf208 tf209 tf210 tf211 tf212 tf213 tf214 tf215 tf216 tf217 tf218 tf219 tf220 tf221 tf222 tf223 tf224 tf225 tf226 tf227 tf228 tf229 tf230 tf231 tf232 tf233 tf234 tf235 tf236 tf237 tf238 tf239 tf240 tf241 tf242 tf243 tf244 tf245 tf246 tf247 tf248 tf249 tf250 tf251 tf252
attribute [local go_sem] List.length_map rowAt_n nrow rowAt_t trow rowAt_i irow
attribute [local go_sem] pl_getF pl_lookF pl_lookF' foldI
theorem rmat_s (l : List Nd) (ts : List Ts) (t u : Tok) (i k : Nat) (hT : Tree l) (hi : i < l.length) (hk : ts.length = k + 1) (hk8 : k ≤ 100) (ih : 0 < k → ∀ (j : Nat) (v : Tok), j < l.length → PCall Try.prog (.func 56) [.sl 5 (l.map nrow) t, .sl 4 ((ts.take k).map trow) v, .int .i64 j] (.bool (mtB l ts k j))) : PCall Try.prog (.func 56) [.sl 5 (l.map nrow) t, .sl 4 (ts.map trow) u, .int .i64 i] (.bool (mtB l ts (k + 1) i)) := by
  have hil : (i : Int) < (l.length : Int) := by omega
  have hlast : IntKind.wrap .i64 ((ts.length : Int) - 1) = (k : Int) := by rw [w64 (by omega)]; omega
  have hkl : (k : Int) < (ts.length : Int) := by omega
  have hpx : idx l (nat l i).par = upc (chn l i) 0 := (up_pix hT hi).trans (chn_zero l i)
  have hms : mtB l ts (k + 1) i = (fuB (nat l i) (tat ts k) && (decide (k = 0) || (if (tat ts k).child = true then (chn l i).take 1 else chn l i).any (mtB l ts k))) := rfl
  have hl4 := hT.len.2
  have hkn : ((k : Nat) : Int) ≤ (ts.length : Int) := by omega
  refine PCall.le ?_
  refine fn_ Try.func56 (by rfl) (by rfl) (rs := [.tmp 6]) (by rfl) (by simp [Try.f56]) ?_
  refine sq ?_
  refine rg [0, 1, 2] [] [] (by kernel_rfl) ?_; intro κ ξ hκ hξ
  try simp (config := { decide := true }) only [go_sem, Nat.reduceMul, Nat.reduceAdd, Nat.reduceBEq, cond_false, hil, hlast, hkl, hpx, hkn]
  repeat with_reducible refine And.intro (by first | assumption | omega | (simp; done) | (simp; omega) | (intro hg; simp (config := { decide := true }) only [go_sem, hg]; done) | (intro hg; simp (config := { decide := true }) only [go_sem, hg]; omega)) ?_
  refine hκ _ _ ?_; clear hκ hξ ξ κ
  refine sq ?_
  refine rg [0, 1, 2, 7] [] [] (by kernel_rfl) ?_; intro κ ξ hκ hξ
  try simp (config := { decide := true }) only [go_sem, Nat.reduceMul, Nat.reduceAdd, Nat.reduceBEq, cond_false, hil, hlast, hkl, hpx, hkn]
  repeat with_reducible refine And.intro (by first | assumption | omega | (simp; done) | (simp; omega) | (intro hg; simp (config := { decide := true }) only [go_sem, hg]; done) | (intro hg; simp (config := { decide := true }) only [go_sem, hg]; omega)) ?_
  refine hκ _ _ ?_; clear hκ hξ ξ κ
  refine sq ?_
  refine rgd [0, 1, 2, 7, 8] [] [22] [] (by kernel_rfl) (by kernel_rfl) ?_; intro κ ξ hκ hξ
  try simp (config := { decide := true }) only [go_sem, Nat.reduceMul, Nat.reduceAdd, Nat.reduceBEq, cond_false, hil, hlast, hkl, hpx, hkn]
  repeat with_reducible refine And.intro (by first | assumption | omega | (simp; done) | (simp; omega) | (intro hg; simp (config := { decide := true }) only [go_sem, hg]; done) | (intro hg; simp (config := { decide := true }) only [go_sem, hg]; omega)) ?_
  refine scallF (rful_w _ _) ?_
  try simp (config := { decide := true }) only [go_sem, Nat.reduceMul, Nat.reduceAdd, Nat.reduceBEq, cond_false, hil, hlast, hkl, hpx, hkn]
  repeat with_reducible refine And.intro (by first | assumption | omega | (simp; done) | (simp; omega) | (intro hg; simp (config := { decide := true }) only [go_sem, hg]; done) | (intro hg; simp (config := { decide := true }) only [go_sem, hg]; omega)) ?_
  refine hκ _ _ ?_; clear hκ hξ ξ κ
  refine sq ?_
  refine sq ?_
  refine rg [0, 1, 2, 7, 8, 28] [] [(2, 25)] (by kernel_rfl) ?_; intro κ ξ hκ hξ
  try simp (config := { decide := true }) only [go_sem, Nat.reduceMul, Nat.reduceAdd, Nat.reduceBEq, cond_false, hil, hlast, hkl, hpx, hkn]
  repeat with_reducible refine And.intro (by first | assumption | omega | (simp; done) | (simp; omega) | (intro hg; simp (config := { decide := true }) only [go_sem, hg]; done) | (intro hg; simp (config := { decide := true }) only [go_sem, hg]; omega)) ?_
  refine hκ _ _ ?_; clear hκ hξ ξ κ
  refine cd (by rfl) (fun c0 => ?_) (fun c0 => ?_)
  · try simp only [go_sem] at c0
    refine sq ?_
    refine rg [6] [] [] (by kernel_rfl) ?_; intro κ ξ hκ hξ
    try simp (config := { decide := true }) only [go_sem, Nat.reduceMul, Nat.reduceAdd, Nat.reduceBEq, cond_false, hil, hlast, hkl, hpx, hkn, c0]
    repeat with_reducible refine And.intro (by first | assumption | omega | (simp; done) | (simp; omega) | (intro hg; simp (config := { decide := true }) only [go_sem, hg]; done) | (intro hg; simp (config := { decide := true }) only [go_sem, hg]; omega)) ?_
    refine hκ _ _ ?_; clear hκ hξ ξ κ
    refine rt ?_
    refine retE ?_
    simp (config := { decide := true }) only [go_sem, resD, resV, hil, hlast, hkl, hpx, hkn, c0]
    rw [hms]
    cases hf : fuB (nat l i) (tat ts k) <;> simp [hf] at c0 ⊢
    exact .inl (by omega)
  · try simp only [go_sem] at c0
    refine sk ?_
    refine sq ?_
    refine rg [0, 1, 7, 9] [] [] (by kernel_rfl) ?_; intro κ ξ hκ hξ
    try simp (config := { decide := true }) only [go_sem, Nat.reduceMul, Nat.reduceAdd, Nat.reduceBEq, cond_false, hil, hlast, hkl, hpx, hkn, c0]
    repeat with_reducible refine And.intro (by first | assumption | omega | (simp; done) | (simp; omega) | (intro hg; simp (config := { decide := true }) only [go_sem, hg]; done) | (intro hg; simp (config := { decide := true }) only [go_sem, hg]; omega)) ?_
    refine callF (ridx2_w _ _ _) ?_
    try simp (config := { decide := true }) only [go_sem, Nat.reduceMul, Nat.reduceAdd, Nat.reduceBEq, cond_false, hil, hlast, hkl, hpx, hkn, c0]
    repeat with_reducible refine And.intro (by first | assumption | omega | (simp; done) | (simp; omega) | (intro hg; simp (config := { decide := true }) only [go_sem, hg]; done) | (intro hg; simp (config := { decide := true }) only [go_sem, hg]; omega)) ?_
    refine hκ _ _ ?_; clear hκ hξ ξ κ
    refine sq ?_
    refine bl ?_
    obtain ⟨hfu, hk0⟩ : fuB (nat l i) (tat ts k) = true ∧ k ≠ 0 := by
      cases hf : fuB (nat l i) (tat ts k) <;> simp [hf] at c0 ⊢
      omega
    refine lp (α := Nat) (fun j => mk [(0, .sl 5 (l.map nrow) t), (1, .sl 4 (ts.map trow) u), (7, .int .i64 k), (9, .int .i64 (upc (chn l i) j))]) (fun _ => []) (fun j => j ≤ (chn l i).length ∧ (∀ q x, q < j → (chn l i)[q]? = some x → mtB l ts k x = false) ∧ ((tat ts k).child = true → j = 0)) (fun j => (chn l i).length - j) 0 ⟨⟨by omega, fun q x h => by omega, fun _ => rfl⟩, EnvLe.of_eq rfl, .refl _⟩ ?_
    rintro j ⟨hj, hno, hch⟩
    refine sq ?_
    refine sq ?_
    refine rg [0, 1, 7, 9, 38] [] [] (by kernel_rfl) ?_; intro κ ξ hκ hξ
    try simp (config := { decide := true }) only [go_sem, Nat.reduceMul, Nat.reduceAdd, Nat.reduceBEq, cond_false, hil, hlast, hkl, hpx, hkn, c0]
    repeat with_reducible refine And.intro (by first | assumption | omega | (simp; done) | (simp; omega) | (intro hg; simp (config := { decide := true }) only [go_sem, hg]; done) | (intro hg; simp (config := { decide := true }) only [go_sem, hg]; omega)) ?_
    refine hκ _ _ ?_; clear hκ hξ ξ κ
    refine cd (by rfl) (fun c1 => ?_) (fun c1 => ?_)
    · simp only [go_sem] at c1
      obtain ⟨x, hx, hux⟩ := upc_pos c1
      obtain ⟨hs, hxi⟩ := chn_step l i hx
      have hxl : (x : Int) < (l.length : Int) := by omega
      have hxp : idx l (nat l x).par = upc (chn l i) (j + 1) := (up_pix hT (by omega)).trans hs
      refine sk ?_
      refine bl ?_
      refine sq ?_
      refine rg [0, 1, 7, 9, 10] [] [] (by kernel_rfl) ?_; intro κ ξ hκ hξ
      try simp (config := { decide := true }) only [go_sem, Nat.reduceMul, Nat.reduceAdd, Nat.reduceBEq, cond_false, hil, hlast, hkl, hpx, hkn, c0, c1, hux, hxl, hxp]
      repeat with_reducible refine And.intro (by first | assumption | omega | (simp; done) | (simp; omega) | (intro hg; simp (config := { decide := true }) only [go_sem, hg]; done) | (intro hg; simp (config := { decide := true }) only [go_sem, hg]; omega)) ?_
      refine callF (ih (by omega) x _ (by omega)) ?_
      try simp (config := { decide := true }) only [go_sem, Nat.reduceMul, Nat.reduceAdd, Nat.reduceBEq, cond_false, hil, hlast, hkl, hpx, hkn, c0, c1, hux, hxl, hxp]
      repeat with_reducible refine And.intro (by first | assumption | omega | (simp; done) | (simp; omega) | (intro hg; simp (config := { decide := true }) only [go_sem, hg]; done) | (intro hg; simp (config := { decide := true }) only [go_sem, hg]; omega)) ?_
      refine hκ _ _ ?_; clear hκ hξ ξ κ
      refine sq ?_
      refine sq ?_
      refine rg [0, 1, 7, 9, 45] [] [] (by kernel_rfl) ?_; intro κ ξ hκ hξ
      try simp (config := { decide := true }) only [go_sem, Nat.reduceMul, Nat.reduceAdd, Nat.reduceBEq, cond_false, hil, hlast, hkl, hpx, hkn, c0, c1, hux, hxl, hxp]
      repeat with_reducible refine And.intro (by first | assumption | omega | (simp; done) | (simp; omega) | (intro hg; simp (config := { decide := true }) only [go_sem, hg]; done) | (intro hg; simp (config := { decide := true }) only [go_sem, hg]; omega)) ?_
      refine hκ _ _ ?_; clear hκ hξ ξ κ
      refine cd (by rfl) (fun c2 => ?_) (fun c2 => ?_)
      · try simp only [go_sem] at c2
        refine sq ?_
        refine rg [6] [] [] (by kernel_rfl) ?_; intro κ ξ hκ hξ
        try simp (config := { decide := true }) only [go_sem, Nat.reduceMul, Nat.reduceAdd, Nat.reduceBEq, cond_false, hil, hlast, hkl, hpx, hkn, c0, c1, hux, hxl, hxp, c2]
        repeat with_reducible refine And.intro (by first | assumption | omega | (simp; done) | (simp; omega) | (intro hg; simp (config := { decide := true }) only [go_sem, hg]; done) | (intro hg; simp (config := { decide := true }) only [go_sem, hg]; omega)) ?_
        refine hκ _ _ ?_; clear hκ hξ ξ κ
        refine rt ?_
        refine retE ?_
        simp (config := { decide := true }) only [go_sem, resD, resV, hil, hlast, hkl, hpx, hkn, c0, c1, hux, hxl, hxp, c2]
        rw [hms, hfu, any_hit hx (by simpa using c2) hch]; simp
      · try simp only [go_sem] at c2
        refine sk ?_
        refine sq ?_
        refine sq ?_
        refine rg [0, 1, 7, 9, 50] [] [] (by kernel_rfl) ?_; intro κ ξ hκ hξ
        try simp (config := { decide := true }) only [go_sem, Nat.reduceMul, Nat.reduceAdd, Nat.reduceBEq, cond_false, hil, hlast, hkl, hpx, hkn, c0, c1, hux, hxl, hxp, c2]
        repeat with_reducible refine And.intro (by first | assumption | omega | (simp; done) | (simp; omega) | (intro hg; simp (config := { decide := true }) only [go_sem, hg]; done) | (intro hg; simp (config := { decide := true }) only [go_sem, hg]; omega)) ?_
        refine hκ _ _ ?_; clear hκ hξ ξ κ
        refine cd (by rfl) (fun c3 => ?_) (fun c3 => ?_)
        · try simp only [go_sem] at c3
          refine sq ?_
          refine rg [6] [] [] (by kernel_rfl) ?_; intro κ ξ hκ hξ
          try simp (config := { decide := true }) only [go_sem, Nat.reduceMul, Nat.reduceAdd, Nat.reduceBEq, cond_false, hil, hlast, hkl, hpx, hkn, c0, c1, hux, hxl, hxp, c2, c3]
          repeat with_reducible refine And.intro (by first | assumption | omega | (simp; done) | (simp; omega) | (intro hg; simp (config := { decide := true }) only [go_sem, hg]; done) | (intro hg; simp (config := { decide := true }) only [go_sem, hg]; omega)) ?_
          refine hκ _ _ ?_; clear hκ hξ ξ κ
          refine rt ?_
          refine retE ?_
          simp (config := { decide := true }) only [go_sem, resD, resV, hil, hlast, hkl, hpx, hkn, c0, c1, hux, hxl, hxp, c2, c3]
          rw [hms, hfu, any_miss (j := j + 1) (fun q y hq hy => by
            rcases Nat.lt_succ_iff_lt_or_eq.1 hq with h | rfl
            · exact hno q y h hy
            · rw [hx] at hy; cases hy; simpa using c2) (.inr ⟨by simpa using c3, by omega⟩)]
          simp [hk0]
        · try simp only [go_sem] at c3
          refine sk ?_
          refine rg [0, 1, 7, 9] [] [] (by kernel_rfl) ?_; intro κ ξ hκ hξ
          try simp (config := { decide := true }) only [go_sem, Nat.reduceMul, Nat.reduceAdd, Nat.reduceBEq, cond_false, hil, hlast, hkl, hpx, hkn, c0, c1, hux, hxl, hxp, c2, c3]
          repeat with_reducible refine And.intro (by first | assumption | omega | (simp; done) | (simp; omega) | (intro hg; simp (config := { decide := true }) only [go_sem, hg]; done) | (intro hg; simp (config := { decide := true }) only [go_sem, hg]; omega)) ?_
          refine callF (ridx2_w _ _ _) ?_
          try simp (config := { decide := true }) only [go_sem, Nat.reduceMul, Nat.reduceAdd, Nat.reduceBEq, cond_false, hil, hlast, hkl, hpx, hkn, c0, c1, hux, hxl, hxp, c2, c3]
          repeat with_reducible refine And.intro (by first | assumption | omega | (simp; done) | (simp; omega) | (intro hg; simp (config := { decide := true }) only [go_sem, hg]; done) | (intro hg; simp (config := { decide := true }) only [go_sem, hg]; omega)) ?_
          refine hκ _ _ ?_; clear hκ hξ ξ κ
          have hjl := (List.getElem?_eq_some_iff.1 hx).1
          refine ⟨j + 1, ⟨⟨by omega, fun q y hq hy => ?_, fun h => by simp [h] at c3⟩, by omega⟩, EnvLe.of_eq rfl, .refl _⟩
          rcases Nat.lt_succ_iff_lt_or_eq.1 hq with h | rfl
          · exact hno q y h hy
          · rw [hx] at hy; cases hy; simpa using c2
    · simp only [go_sem] at c1
      refine ex ?_
      refine sq ?_
      refine rg [6] [] [] (by kernel_rfl) ?_; intro κ ξ hκ hξ
      try simp (config := { decide := true }) only [go_sem, Nat.reduceMul, Nat.reduceAdd, Nat.reduceBEq, cond_false, hil, hlast, hkl, hpx, hkn, c0, c1]
      repeat with_reducible refine And.intro (by first | assumption | omega | (simp; done) | (simp; omega) | (intro hg; simp (config := { decide := true }) only [go_sem, hg]; done) | (intro hg; simp (config := { decide := true }) only [go_sem, hg]; omega)) ?_
      refine hκ _ _ ?_; clear hκ hξ ξ κ
      refine rt ?_
      refine retE ?_
      simp (config := { decide := true }) only [go_sem, resD, resV, hil, hlast, hkl, hpx, hkn, c0, c1]
      rw [hms, hfu, any_miss (j := j) hno (.inl (upc_neg c1))]
      simp [hk0]

theorem rmat_w {l : List Nd} (hT : Tree l) : ∀ (k : Nat) (ts : List Ts) (t u : Tok) (i : Nat), k ≤ 100 → ts.length = k + 1 → i < l.length → PCall Try.prog (.func 56) [.sl 5 (l.map nrow) t, .sl 4 (ts.map trow) u, .int .i64 i] (.bool (mtB l ts ts.length i))
  | 0, ts, t, u, i, h8, hk, hi => by rw [hk]; exact rmat_s l ts t u i 0 hT hi hk h8 (fun h => by omega)
  | k + 1, ts, t, u, i, h8, hk, hi => by
    rw [hk]
    refine rmat_s l ts t u i (k + 1) hT hi hk h8 fun _ j v hj => ?_
    have hl : (ts.take (k + 1)).length = k + 1 := by rw [List.length_take]; omega
    have := rmat_w hT k (ts.take (k + 1)) t v j (by omega) hl hj
    rw [hl, mtB_take _ _ (Nat.le_refl _)] at this
    exact this

theorem rmch_w (l : List Nd) (ts : List Ts) (t u : Tok) (x : Int) : PCall Try.prog (.func 19) [.sl 5 (l.map nrow) t, .sl 4 (ts.map trow) u, .int .i64 x] (.tup [.bool (treB l && selB ts && decide (0 ≤ idx l x) && mtB l ts ts.length (idx l x).toNat), .int .i64 (if (treB l && selB ts) = true then (if 0 ≤ idx l x then 0 else 4) else 1)]) := by
  refine PCall.le ?_
  refine fn_ Try.func19 (by rfl) (by rfl) (rs := [.tmp 6, .tmp 7]) (by rfl) (by simp [Try.f19]) ?_
  refine sq ?_
  refine rg [0, 1, 2] [] [] (by kernel_rfl) ?_; intro κ ξ hκ hξ
  try simp (config := { decide := true }) only [go_sem, Nat.reduceMul, Nat.reduceAdd, Nat.reduceBEq, cond_false]
  repeat with_reducible refine And.intro (by first | assumption | omega | (simp; done) | (simp; omega) | (intro hg; simp (config := { decide := true }) only [go_sem, hg]; done) | (intro hg; simp (config := { decide := true }) only [go_sem, hg]; omega)) ?_
  refine hκ _ _ ?_; clear hκ hξ ξ κ
  refine sq ?_
  refine rg [0, 1, 2, 8] [] [] (by kernel_rfl) ?_; intro κ ξ hκ hξ
  try simp (config := { decide := true }) only [go_sem, Nat.reduceMul, Nat.reduceAdd, Nat.reduceBEq, cond_false]
  repeat with_reducible refine And.intro (by first | assumption | omega | (simp; done) | (simp; omega) | (intro hg; simp (config := { decide := true }) only [go_sem, hg]; done) | (intro hg; simp (config := { decide := true }) only [go_sem, hg]; omega)) ?_
  refine callF (rtre_w _ _) ?_
  try simp (config := { decide := true }) only [go_sem, Nat.reduceMul, Nat.reduceAdd, Nat.reduceBEq, cond_false]
  repeat with_reducible refine And.intro (by first | assumption | omega | (simp; done) | (simp; omega) | (intro hg; simp (config := { decide := true }) only [go_sem, hg]; done) | (intro hg; simp (config := { decide := true }) only [go_sem, hg]; omega)) ?_
  refine hκ _ _ ?_; clear hκ hξ ξ κ
  refine sq ?_
  refine rg [0, 1, 2, 8, 9] [] [] (by kernel_rfl) ?_; intro κ ξ hκ hξ
  try simp (config := { decide := true }) only [go_sem, Nat.reduceMul, Nat.reduceAdd, Nat.reduceBEq, cond_false]
  repeat with_reducible refine And.intro (by first | assumption | omega | (simp; done) | (simp; omega) | (intro hg; simp (config := { decide := true }) only [go_sem, hg]; done) | (intro hg; simp (config := { decide := true }) only [go_sem, hg]; omega)) ?_
  refine callF (rsel_w _ _) ?_
  try simp (config := { decide := true }) only [go_sem, Nat.reduceMul, Nat.reduceAdd, Nat.reduceBEq, cond_false]
  repeat with_reducible refine And.intro (by first | assumption | omega | (simp; done) | (simp; omega) | (intro hg; simp (config := { decide := true }) only [go_sem, hg]; done) | (intro hg; simp (config := { decide := true }) only [go_sem, hg]; omega)) ?_
  refine hκ _ _ ?_; clear hκ hξ ξ κ
  refine sq ?_
  refine sq ?_
  refine rg [0, 1, 2, 20] [] [(2, 17)] (by kernel_rfl) ?_; intro κ ξ hκ hξ
  try simp (config := { decide := true }) only [go_sem, Nat.reduceMul, Nat.reduceAdd, Nat.reduceBEq, cond_false]
  repeat with_reducible refine And.intro (by first | assumption | omega | (simp; done) | (simp; omega) | (intro hg; simp (config := { decide := true }) only [go_sem, hg]; done) | (intro hg; simp (config := { decide := true }) only [go_sem, hg]; omega)) ?_
  refine hκ _ _ ?_; clear hκ hξ ξ κ
  refine cd (by rfl) (fun c0 => ?_) (fun c0 => ?_)
  · skip
    refine sq ?_
    refine rg [6, 7] [] [] (by kernel_rfl) ?_; intro κ ξ hκ hξ
    try simp (config := { decide := true }) only [go_sem, Nat.reduceMul, Nat.reduceAdd, Nat.reduceBEq, cond_false, c0]
    repeat with_reducible refine And.intro (by first | assumption | omega | (simp; done) | (simp; omega) | (intro hg; simp (config := { decide := true }) only [go_sem, hg]; done) | (intro hg; simp (config := { decide := true }) only [go_sem, hg]; omega)) ?_
    refine hκ _ _ ?_; clear hκ hξ ξ κ
    refine rt ?_
    refine retE ?_
    simp (config := { decide := true }) only [go_sem, resD, resV, c0]
    cases h1 : treB l <;> cases h2 : selB ts <;> simp [h1, h2] at c0 ⊢
  · have hv : treB l = true ∧ selB ts = true := by
      cases h1 : treB l <;> cases h2 : selB ts <;> simp [h1, h2] at c0 ⊢
    obtain ⟨hv1, hv2⟩ := hv
    have hT := treB_true.1 hv1
    obtain ⟨⟨hk1, hk2⟩, -, -⟩ := sel_true.1 hv2
    obtain ⟨k, hk⟩ : ∃ k, ts.length = k + 1 := ⟨ts.length - 1, by omega⟩
    have hl4 := hT.len.2
    refine sk ?_
    refine sq ?_
    refine rg [0, 1, 10] [] [] (by kernel_rfl) ?_; intro κ ξ hκ hξ
    try simp (config := { decide := true }) only [go_sem, Nat.reduceMul, Nat.reduceAdd, Nat.reduceBEq, cond_false, c0]
    repeat with_reducible refine And.intro (by first | assumption | omega | (simp; done) | (simp; omega) | (intro hg; simp (config := { decide := true }) only [go_sem, hg]; done) | (intro hg; simp (config := { decide := true }) only [go_sem, hg]; omega)) ?_
    refine callF (ridx2_w _ _ _) ?_
    try simp (config := { decide := true }) only [go_sem, Nat.reduceMul, Nat.reduceAdd, Nat.reduceBEq, cond_false, c0]
    repeat with_reducible refine And.intro (by first | assumption | omega | (simp; done) | (simp; omega) | (intro hg; simp (config := { decide := true }) only [go_sem, hg]; done) | (intro hg; simp (config := { decide := true }) only [go_sem, hg]; omega)) ?_
    refine hκ _ _ ?_; clear hκ hξ ξ κ
    refine sq ?_
    refine sq ?_
    refine rg [0, 1, 10, 25] [] [] (by kernel_rfl) ?_; intro κ ξ hκ hξ
    try simp (config := { decide := true }) only [go_sem, Nat.reduceMul, Nat.reduceAdd, Nat.reduceBEq, cond_false, c0]
    repeat with_reducible refine And.intro (by first | assumption | omega | (simp; done) | (simp; omega) | (intro hg; simp (config := { decide := true }) only [go_sem, hg]; done) | (intro hg; simp (config := { decide := true }) only [go_sem, hg]; omega)) ?_
    refine hκ _ _ ?_; clear hκ hξ ξ κ
    refine cd (by rfl) (fun c1 => ?_) (fun c1 => ?_)
    · simp only [go_sem] at c1
      refine sq ?_
      refine rg [6, 7] [] [] (by kernel_rfl) ?_; intro κ ξ hκ hξ
      try simp (config := { decide := true }) only [go_sem, Nat.reduceMul, Nat.reduceAdd, Nat.reduceBEq, cond_false, c0, c1]
      repeat with_reducible refine And.intro (by first | assumption | omega | (simp; done) | (simp; omega) | (intro hg; simp (config := { decide := true }) only [go_sem, hg]; done) | (intro hg; simp (config := { decide := true }) only [go_sem, hg]; omega)) ?_
      refine hκ _ _ ?_; clear hκ hξ ξ κ
      refine rt ?_
      refine retE ?_
      simp (config := { decide := true }) only [go_sem, resD, resV, c0, c1]
      simp [hv1, hv2]
      omega
    · simp only [go_sem] at c1
      obtain ⟨i, hi⟩ : ∃ i : Nat, idx l x = (i : Int) := ⟨(idx l x).toNat, by omega⟩
      have hil := idx_lt l x
      refine sk ?_
      refine sq ?_
      refine rg [6, 7] [] [] (by kernel_rfl) ?_; intro κ ξ hκ hξ
      try simp (config := { decide := true }) only [go_sem, Nat.reduceMul, Nat.reduceAdd, Nat.reduceBEq, cond_false, c0, c1, hi]
      repeat with_reducible refine And.intro (by first | assumption | omega | (simp; done) | (simp; omega) | (intro hg; simp (config := { decide := true }) only [go_sem, hg]; done) | (intro hg; simp (config := { decide := true }) only [go_sem, hg]; omega)) ?_
      refine callF (rmat_w hT k ts _ _ i (by omega) hk (by omega)) ?_
      try simp (config := { decide := true }) only [go_sem, Nat.reduceMul, Nat.reduceAdd, Nat.reduceBEq, cond_false, c0, c1, hi]
      repeat with_reducible refine And.intro (by first | assumption | omega | (simp; done) | (simp; omega) | (intro hg; simp (config := { decide := true }) only [go_sem, hg]; done) | (intro hg; simp (config := { decide := true }) only [go_sem, hg]; omega)) ?_
      refine hκ _ _ ?_; clear hκ hξ ξ κ
      refine rt ?_
      refine retE ?_
      simp (config := { decide := true }) only [go_sem, resD, resV, c0, c1, hi]
      simp [hv1, hv2, hi]

theorem rall_w (l : List Nd) (ts : List Ts) (t u : Tok) : PCall Try.prog (.func 23) [.sl 5 (l.map nrow) t, .sl 4 (ts.map trow) u] (.tup [if (treB l && selB ts) = true then .sl 1 ((allP l ts l.length).map irow) .no else .sl 0 [] .nil, .int .i64 (if (treB l && selB ts) = true then 0 else 1)]) := by
  refine PCall.le ?_
  refine fn_ Try.func23 (by rfl) (by rfl) (rs := [.tmp 4, .tmp 5]) (by rfl) (by simp [Try.f23]) ?_
  refine sq ?_
  refine rg [0, 1] [] [] (by kernel_rfl) ?_; intro κ ξ hκ hξ
  try simp (config := { decide := true }) only [go_sem, Nat.reduceMul, Nat.reduceAdd, Nat.reduceBEq, cond_false]
  repeat with_reducible refine And.intro (by first | assumption | omega | (simp; done) | (simp; omega) | (intro hg; simp (config := { decide := true }) only [go_sem, hg]; done) | (intro hg; simp (config := { decide := true }) only [go_sem, hg]; omega)) ?_
  refine hκ _ _ ?_; clear hκ hξ ξ κ
  refine sq ?_
  refine rg [0, 1, 6] [] [] (by kernel_rfl) ?_; intro κ ξ hκ hξ
  try simp (config := { decide := true }) only [go_sem, Nat.reduceMul, Nat.reduceAdd, Nat.reduceBEq, cond_false]
  repeat with_reducible refine And.intro (by first | assumption | omega | (simp; done) | (simp; omega) | (intro hg; simp (config := { decide := true }) only [go_sem, hg]; done) | (intro hg; simp (config := { decide := true }) only [go_sem, hg]; omega)) ?_
  refine callF (rtre_w _ _) ?_
  try simp (config := { decide := true }) only [go_sem, Nat.reduceMul, Nat.reduceAdd, Nat.reduceBEq, cond_false]
  repeat with_reducible refine And.intro (by first | assumption | omega | (simp; done) | (simp; omega) | (intro hg; simp (config := { decide := true }) only [go_sem, hg]; done) | (intro hg; simp (config := { decide := true }) only [go_sem, hg]; omega)) ?_
  refine hκ _ _ ?_; clear hκ hξ ξ κ
  refine sq ?_
  refine rg [0, 1, 6, 7] [] [] (by kernel_rfl) ?_; intro κ ξ hκ hξ
  try simp (config := { decide := true }) only [go_sem, Nat.reduceMul, Nat.reduceAdd, Nat.reduceBEq, cond_false]
  repeat with_reducible refine And.intro (by first | assumption | omega | (simp; done) | (simp; omega) | (intro hg; simp (config := { decide := true }) only [go_sem, hg]; done) | (intro hg; simp (config := { decide := true }) only [go_sem, hg]; omega)) ?_
  refine callF (rsel_w _ _) ?_
  try simp (config := { decide := true }) only [go_sem, Nat.reduceMul, Nat.reduceAdd, Nat.reduceBEq, cond_false]
  repeat with_reducible refine And.intro (by first | assumption | omega | (simp; done) | (simp; omega) | (intro hg; simp (config := { decide := true }) only [go_sem, hg]; done) | (intro hg; simp (config := { decide := true }) only [go_sem, hg]; omega)) ?_
  refine hκ _ _ ?_; clear hκ hξ ξ κ
  refine sq ?_
  refine sq ?_
  refine rg [0, 1, 20] [] [(2, 17)] (by kernel_rfl) ?_; intro κ ξ hκ hξ
  try simp (config := { decide := true }) only [go_sem, Nat.reduceMul, Nat.reduceAdd, Nat.reduceBEq, cond_false]
  repeat with_reducible refine And.intro (by first | assumption | omega | (simp; done) | (simp; omega) | (intro hg; simp (config := { decide := true }) only [go_sem, hg]; done) | (intro hg; simp (config := { decide := true }) only [go_sem, hg]; omega)) ?_
  refine hκ _ _ ?_; clear hκ hξ ξ κ
  refine cd (by rfl) (fun c0 => ?_) (fun c0 => ?_)
  · skip
    refine sq ?_
    refine rg [4, 5] [] [] (by kernel_rfl) ?_; intro κ ξ hκ hξ
    try simp (config := { decide := true }) only [go_sem, Nat.reduceMul, Nat.reduceAdd, Nat.reduceBEq, cond_false, c0]
    repeat with_reducible refine And.intro (by first | assumption | omega | (simp; done) | (simp; omega) | (intro hg; simp (config := { decide := true }) only [go_sem, hg]; done) | (intro hg; simp (config := { decide := true }) only [go_sem, hg]; omega)) ?_
    refine hκ _ _ ?_; clear hκ hξ ξ κ
    refine rt ?_
    refine retE ?_
    simp (config := { decide := true }) only [go_sem, resD, resV, c0]
    cases h1 : treB l <;> cases h2 : selB ts <;> simp [h1, h2] at c0 ⊢
  · have hv : treB l = true ∧ selB ts = true := by
      cases h1 : treB l <;> cases h2 : selB ts <;> simp [h1, h2] at c0 ⊢
    obtain ⟨hv1, hv2⟩ := hv
    have hT := treB_true.1 hv1
    obtain ⟨⟨hk1, hk2⟩, -, -⟩ := sel_true.1 hv2
    obtain ⟨k, hk⟩ : ∃ k, ts.length = k + 1 := ⟨ts.length - 1, by omega⟩
    have hl4 := hT.len.2
    refine sk ?_
    refine sq ?_
    refine rg [0, 1, 8] [] [] (by kernel_rfl) ?_; intro κ ξ hκ hξ
    try simp (config := { decide := true }) only [go_sem, Nat.reduceMul, Nat.reduceAdd, Nat.reduceBEq, cond_false, c0]
    repeat with_reducible refine And.intro (by first | assumption | omega | (simp; done) | (simp; omega) | (intro hg; simp (config := { decide := true }) only [go_sem, hg]; done) | (intro hg; simp (config := { decide := true }) only [go_sem, hg]; omega)) ?_
    refine hκ _ _ ?_; clear hκ hξ ξ κ
    refine sq ?_
    refine sq ?_
    refine rg [0, 1, 8, 9] [] [] (by kernel_rfl) ?_; intro κ ξ hκ hξ
    try simp (config := { decide := true }) only [go_sem, Nat.reduceMul, Nat.reduceAdd, Nat.reduceBEq, cond_false, c0]
    repeat with_reducible refine And.intro (by first | assumption | omega | (simp; done) | (simp; omega) | (intro hg; simp (config := { decide := true }) only [go_sem, hg]; done) | (intro hg; simp (config := { decide := true }) only [go_sem, hg]; omega)) ?_
    refine hκ _ _ ?_; clear hκ hξ ξ κ
    refine bl ?_
    refine lp (α := Nat × Option (Nat × Nat)) (fun y => mk [(0, .sl 5 (l.map nrow) t), (1, .sl 4 (ts.map trow) u), (8, apD 1 ((allP l ts y.1).map irow) y.2), (9, .int .i64 y.1)]) (fun y => apS 1 (allP l ts y.1).length y.2) (fun y => y.1 ≤ l.length ∧ apOK ((allP l ts y.1).map irow) y.2) (fun y => l.length - y.1) (0, none) ⟨⟨by omega, fun _ => rfl⟩, EnvLe.of_eq rfl, .refl _⟩ ?_
    rintro ⟨i, o⟩ ⟨hi, ho⟩
    simp only at hi ho
    have hal := allP_len l ts i
    refine sq ?_
    refine sq ?_
    refine rg [0, 1, 8, 9, 24] [] [] (by kernel_rfl) ?_; intro κ ξ hκ hξ
    try simp (config := { decide := true }) only [go_sem, Nat.reduceMul, Nat.reduceAdd, Nat.reduceBEq, cond_false, c0]
    repeat with_reducible refine And.intro (by first | assumption | omega | (simp; done) | (simp; omega) | (intro hg; simp (config := { decide := true }) only [go_sem, hg]; done) | (intro hg; simp (config := { decide := true }) only [go_sem, hg]; omega)) ?_
    refine hκ _ _ ?_; clear hκ hξ ξ κ
    refine cd (by rfl) (fun c1 => ?_) (fun c1 => ?_)
    · try simp only [go_sem] at c1
      refine sk ?_
      refine sq ?_
      refine bl ?_
      refine sq ?_
      refine rg [0, 1, 8, 9, 10] [] [] (by kernel_rfl) ?_; intro κ ξ hκ hξ
      try simp (config := { decide := true }) only [go_sem, Nat.reduceMul, Nat.reduceAdd, Nat.reduceBEq, cond_false, c0, c1]
      repeat with_reducible refine And.intro (by first | assumption | omega | (simp; done) | (simp; omega) | (intro hg; simp (config := { decide := true }) only [go_sem, hg]; done) | (intro hg; simp (config := { decide := true }) only [go_sem, hg]; omega)) ?_
      refine callF (rmat_w hT k ts _ _ i (by omega) hk (by omega)) ?_
      try simp (config := { decide := true }) only [go_sem, Nat.reduceMul, Nat.reduceAdd, Nat.reduceBEq, cond_false, c0, c1]
      repeat with_reducible refine And.intro (by first | assumption | omega | (simp; done) | (simp; omega) | (intro hg; simp (config := { decide := true }) only [go_sem, hg]; done) | (intro hg; simp (config := { decide := true }) only [go_sem, hg]; omega)) ?_
      refine hκ _ _ ?_; clear hκ hξ ξ κ
      refine sq ?_
      refine rg [0, 1, 8, 9, 31] [] [] (by kernel_rfl) ?_; intro κ ξ hκ hξ
      try simp (config := { decide := true }) only [go_sem, Nat.reduceMul, Nat.reduceAdd, Nat.reduceBEq, cond_false, c0, c1]
      repeat with_reducible refine And.intro (by first | assumption | omega | (simp; done) | (simp; omega) | (intro hg; simp (config := { decide := true }) only [go_sem, hg]; done) | (intro hg; simp (config := { decide := true }) only [go_sem, hg]; omega)) ?_
      refine hκ _ _ ?_; clear hκ hξ ξ κ
      refine cd (by rfl) (fun c2 => ?_) (fun c2 => ?_)
      · try simp only [go_sem] at c2
        refine rg [0, 1, 8, 9] [] [] (by kernel_rfl) ?_; intro κ ξ hκ hξ
        try simp (config := { decide := true }) only [go_sem, Nat.reduceMul, Nat.reduceAdd, Nat.reduceBEq, cond_false, c0, c1, c2]
        repeat with_reducible refine And.intro (by first | assumption | omega | (simp; done) | (simp; omega) | (intro hg; simp (config := { decide := true }) only [go_sem, hg]; done) | (intro hg; simp (config := { decide := true }) only [go_sem, hg]; omega)) ?_
        refine napp_grow0 (by first | assumption | omega | (simp; done) | (simp; omega) | (intro hg; simp (config := { decide := true }) only [go_sem, hg]; done) | (intro hg; simp (config := { decide := true }) only [go_sem, hg]; omega)) (by first | (simp; done) | (simp [*]; done) | omega) rfl rfl (by simp (config := { decide := true }) only [go_sem, Option.isSome_some]) tf117 tf118 tf36 (by refine ⟨⟨rfl, by decide, by decide⟩, by simp (config := { decide := true }) only [go_sem], by simp, ?_⟩; simp [capB] <;> omega) ?_; intro b39 c39
        try simp (config := { decide := true }) only [go_sem, Nat.reduceMul, Nat.reduceAdd, Nat.reduceBEq, cond_false, c0, c1, c2]
        repeat with_reducible refine And.intro (by first | assumption | omega | (simp; done) | (simp; omega) | (intro hg; simp (config := { decide := true }) only [go_sem, hg]; done) | (intro hg; simp (config := { decide := true }) only [go_sem, hg]; omega)) ?_
        refine hκ _ _ ?_; clear hκ hξ ξ κ
        refine rg [0, 1, 8, 9] [] [] (by kernel_rfl) ?_; intro κ ξ hκ hξ
        try simp (config := { decide := true }) only [go_sem, Nat.reduceMul, Nat.reduceAdd, Nat.reduceBEq, cond_false, c0, c1, c2]
        repeat with_reducible refine And.intro (by first | assumption | omega | (simp; done) | (simp; omega) | (intro hg; simp (config := { decide := true }) only [go_sem, hg]; done) | (intro hg; simp (config := { decide := true }) only [go_sem, hg]; omega)) ?_
        refine hκ _ _ ?_; clear hκ hξ ξ κ
        refine ⟨(i + 1, some (b39, c39)), ⟨⟨by omega, fun h => by cases h⟩, by simp only; omega⟩, EnvLe.of_eq ?_, ?_⟩
        · rw [w64 (by omega), allP_succ, if_pos (by simpa using c2), List.map_append]; rfl
        · rw [allP_succ, if_pos (by simpa using c2), List.length_append]; exact .refl _
      · try simp only [go_sem] at c2
        refine sk ?_
        refine rg [0, 1, 8, 9] [] [] (by kernel_rfl) ?_; intro κ ξ hκ hξ
        try simp (config := { decide := true }) only [go_sem, Nat.reduceMul, Nat.reduceAdd, Nat.reduceBEq, cond_false, c0, c1, c2]
        repeat with_reducible refine And.intro (by first | assumption | omega | (simp; done) | (simp; omega) | (intro hg; simp (config := { decide := true }) only [go_sem, hg]; done) | (intro hg; simp (config := { decide := true }) only [go_sem, hg]; omega)) ?_
        refine hκ _ _ ?_; clear hκ hξ ξ κ
        have hn : allP l ts (i + 1) = allP l ts i := by rw [allP_succ, if_neg (by simpa using c2)]
        refine ⟨(i + 1, o), ⟨⟨by omega, by rw [hn]; exact ho⟩, by simp only; omega⟩, EnvLe.of_eq ?_, ?_⟩
        · rw [w64 (by omega), hn]; rfl
        · rw [hn]; exact .refl _
    · try simp only [go_sem] at c1
      refine ex ?_
      refine sq ?_
      refine rg [4, 5] [] [] (by kernel_rfl) ?_; intro κ ξ hκ hξ
      try simp (config := { decide := true }) only [go_sem, Nat.reduceMul, Nat.reduceAdd, Nat.reduceBEq, cond_false, c0, c1]
      repeat with_reducible refine And.intro (by first | assumption | omega | (simp; done) | (simp; omega) | (intro hg; simp (config := { decide := true }) only [go_sem, hg]; done) | (intro hg; simp (config := { decide := true }) only [go_sem, hg]; omega)) ?_
      refine hκ _ _ ?_; clear hκ hξ ξ κ
      refine rt ?_
      refine retL ?_
      simp (config := { decide := true }) only [go_sem, resD, resV, c0, c1]
      obtain rfl : i = l.length := by omega
      simp only [hv1, hv2, Bool.and_self, if_true]
      exact DLe.tup ⟨apD_le 1 ho, DLe.refl _, trivial⟩

theorem rwt_w (ts : List Ts) (u : Tok) : PCall Try.prog (.func 26) [.sl 4 (ts.map trow) u] (.tup [.int .i64 (if selB ts = true then wtL ts else 0), .int .i64 (if selB ts = true then 0 else 1)]) := by
  refine PCall.le ?_
  refine fn_ Try.func26 (by rfl) (by rfl) (rs := [.tmp 2, .tmp 3]) (by rfl) (by simp [Try.f26]) ?_
  refine sq ?_
  refine rg [0] [] [] (by kernel_rfl) ?_; intro κ ξ hκ hξ
  try simp (config := { decide := true }) only [go_sem, Nat.reduceMul, Nat.reduceAdd, Nat.reduceBEq, cond_false]
  repeat with_reducible refine And.intro (by first | assumption | omega | (simp; done) | (simp; omega) | (intro hg; simp (config := { decide := true }) only [go_sem, hg]; done) | (intro hg; simp (config := { decide := true }) only [go_sem, hg]; omega)) ?_
  refine hκ _ _ ?_; clear hκ hξ ξ κ
  refine sq ?_
  refine rg [0, 4] [] [] (by kernel_rfl) ?_; intro κ ξ hκ hξ
  try simp (config := { decide := true }) only [go_sem, Nat.reduceMul, Nat.reduceAdd, Nat.reduceBEq, cond_false]
  repeat with_reducible refine And.intro (by first | assumption | omega | (simp; done) | (simp; omega) | (intro hg; simp (config := { decide := true }) only [go_sem, hg]; done) | (intro hg; simp (config := { decide := true }) only [go_sem, hg]; omega)) ?_
  refine callF (rsel_w _ _) ?_
  try simp (config := { decide := true }) only [go_sem, Nat.reduceMul, Nat.reduceAdd, Nat.reduceBEq, cond_false]
  repeat with_reducible refine And.intro (by first | assumption | omega | (simp; done) | (simp; omega) | (intro hg; simp (config := { decide := true }) only [go_sem, hg]; done) | (intro hg; simp (config := { decide := true }) only [go_sem, hg]; omega)) ?_
  refine hκ _ _ ?_; clear hκ hξ ξ κ
  refine sq ?_
  refine sq ?_
  refine rg [0, 10] [] [] (by kernel_rfl) ?_; intro κ ξ hκ hξ
  try simp (config := { decide := true }) only [go_sem, Nat.reduceMul, Nat.reduceAdd, Nat.reduceBEq, cond_false]
  repeat with_reducible refine And.intro (by first | assumption | omega | (simp; done) | (simp; omega) | (intro hg; simp (config := { decide := true }) only [go_sem, hg]; done) | (intro hg; simp (config := { decide := true }) only [go_sem, hg]; omega)) ?_
  refine hκ _ _ ?_; clear hκ hξ ξ κ
  refine cd (by rfl) (fun c0 => ?_) (fun c0 => ?_)
  · try simp only [go_sem] at c0
    refine sq ?_
    refine rg [2, 3] [] [] (by kernel_rfl) ?_; intro κ ξ hκ hξ
    try simp (config := { decide := true }) only [go_sem, Nat.reduceMul, Nat.reduceAdd, Nat.reduceBEq, cond_false, c0]
    repeat with_reducible refine And.intro (by first | assumption | omega | (simp; done) | (simp; omega) | (intro hg; simp (config := { decide := true }) only [go_sem, hg]; done) | (intro hg; simp (config := { decide := true }) only [go_sem, hg]; omega)) ?_
    refine hκ _ _ ?_; clear hκ hξ ξ κ
    refine rt ?_
    refine retE ?_
    simp (config := { decide := true }) only [go_sem, resD, resV, c0]
    all_goals simp_all
  · try simp only [go_sem] at c0
    refine sk ?_
    refine sq ?_
    refine rg [0, 5] [] [] (by kernel_rfl) ?_; intro κ ξ hκ hξ
    try simp (config := { decide := true }) only [go_sem, Nat.reduceMul, Nat.reduceAdd, Nat.reduceBEq, cond_false, c0]
    repeat with_reducible refine And.intro (by first | assumption | omega | (simp; done) | (simp; omega) | (intro hg; simp (config := { decide := true }) only [go_sem, hg]; done) | (intro hg; simp (config := { decide := true }) only [go_sem, hg]; omega)) ?_
    refine hκ _ _ ?_; clear hκ hξ ξ κ
    refine sq ?_
    refine sq ?_
    refine rg [0, 5, 6] [] [] (by kernel_rfl) ?_; intro κ ξ hκ hξ
    try simp (config := { decide := true }) only [go_sem, Nat.reduceMul, Nat.reduceAdd, Nat.reduceBEq, cond_false, c0]
    repeat with_reducible refine And.intro (by first | assumption | omega | (simp; done) | (simp; omega) | (intro hg; simp (config := { decide := true }) only [go_sem, hg]; done) | (intro hg; simp (config := { decide := true }) only [go_sem, hg]; omega)) ?_
    refine hκ _ _ ?_; clear hκ hξ ξ κ
    refine bl ?_
    have hv : selB ts = true := by simpa using c0
    obtain ⟨⟨hk1, hk2⟩, -, -⟩ := sel_true.1 hv
    refine lp (α := Nat) (fun i => mk [(0, .sl 4 (ts.map trow) u), (5, .int .i64 (wtL (ts.take i))), (6, .int .i64 i)]) (fun _ => []) (fun i => i ≤ ts.length) (fun i => ts.length - i) 0 ⟨by omega, EnvLe.of_eq rfl, .refl _⟩ ?_
    intro i hi
    have hwr := wtL_range (ts.take i)
    rw [List.length_take] at hwr
    refine sq ?_
    refine sq ?_
    refine rg [0, 5, 6, 14] [] [] (by kernel_rfl) ?_; intro κ ξ hκ hξ
    try simp (config := { decide := true }) only [go_sem, Nat.reduceMul, Nat.reduceAdd, Nat.reduceBEq, cond_false, c0]
    repeat with_reducible refine And.intro (by first | assumption | omega | (simp; done) | (simp; omega) | (intro hg; simp (config := { decide := true }) only [go_sem, hg]; done) | (intro hg; simp (config := { decide := true }) only [go_sem, hg]; omega)) ?_
    refine hκ _ _ ?_; clear hκ hξ ξ κ
    refine cd (by rfl) (fun c1 => ?_) (fun c1 => ?_)
    · try simp only [go_sem] at c1
      refine sk ?_
      refine sq ?_
      refine bl ?_
      refine sq ?_
      refine sq ?_
      refine rg [0, 5, 6, 22] [] [] (by kernel_rfl) ?_; intro κ ξ hκ hξ
      try simp (config := { decide := true }) only [go_sem, Nat.reduceMul, Nat.reduceAdd, Nat.reduceBEq, cond_false, c0, c1]
      repeat with_reducible refine And.intro (by first | assumption | omega | (simp; done) | (simp; omega) | (intro hg; simp (config := { decide := true }) only [go_sem, hg]; done) | (intro hg; simp (config := { decide := true }) only [go_sem, hg]; omega)) ?_
      refine hκ _ _ ?_; clear hκ hξ ξ κ
      refine cd (by rfl) (fun c2 => ?_) (fun c2 => ?_)
      · try simp only [go_sem] at c2
        refine rg [0, 5, 6] [] [] (by kernel_rfl) ?_; intro κ ξ hκ hξ
        try simp (config := { decide := true }) only [go_sem, Nat.reduceMul, Nat.reduceAdd, Nat.reduceBEq, cond_false, c0, c1, c2]
        repeat with_reducible refine And.intro (by first | assumption | omega | (simp; done) | (simp; omega) | (intro hg; simp (config := { decide := true }) only [go_sem, hg]; done) | (intro hg; simp (config := { decide := true }) only [go_sem, hg]; omega)) ?_
        refine hκ _ _ ?_; clear hκ hξ ξ κ
        refine sq ?_
        refine sq ?_
        refine rg [0, 5, 6, 30] [] [] (by kernel_rfl) ?_; intro κ ξ hκ hξ
        try simp (config := { decide := true }) only [go_sem, Nat.reduceMul, Nat.reduceAdd, Nat.reduceBEq, cond_false, c0, c1, c2]
        repeat with_reducible refine And.intro (by first | assumption | omega | (simp; done) | (simp; omega) | (intro hg; simp (config := { decide := true }) only [go_sem, hg]; done) | (intro hg; simp (config := { decide := true }) only [go_sem, hg]; omega)) ?_
        refine hκ _ _ ?_; clear hκ hξ ξ κ
        refine cd (by rfl) (fun c3 => ?_) (fun c3 => ?_)
        · try simp only [go_sem] at c3
          refine rg [0, 5, 6] [] [] (by kernel_rfl) ?_; intro κ ξ hκ hξ
          try simp (config := { decide := true }) only [go_sem, Nat.reduceMul, Nat.reduceAdd, Nat.reduceBEq, cond_false, c0, c1, c2, c3]
          repeat with_reducible refine And.intro (by first | assumption | omega | (simp; done) | (simp; omega) | (intro hg; simp (config := { decide := true }) only [go_sem, hg]; done) | (intro hg; simp (config := { decide := true }) only [go_sem, hg]; omega)) ?_
          refine hκ _ _ ?_; clear hκ hξ ξ κ
          refine sq ?_
          refine rg [0, 5, 6, 38] [] [] (by kernel_rfl) ?_; intro κ ξ hκ hξ
          try simp (config := { decide := true }) only [go_sem, Nat.reduceMul, Nat.reduceAdd, Nat.reduceBEq, cond_false, c0, c1, c2, c3]
          repeat with_reducible refine And.intro (by first | assumption | omega | (simp; done) | (simp; omega) | (intro hg; simp (config := { decide := true }) only [go_sem, hg]; done) | (intro hg; simp (config := { decide := true }) only [go_sem, hg]; omega)) ?_
          refine hκ _ _ ?_; clear hκ hξ ξ κ
          refine cd (by rfl) (fun c4 => ?_) (fun c4 => ?_)
          · try simp only [go_sem] at c4
            refine rg [0, 5, 6] [] [] (by kernel_rfl) ?_; intro κ ξ hκ hξ
            try simp (config := { decide := true }) only [go_sem, Nat.reduceMul, Nat.reduceAdd, Nat.reduceBEq, cond_false, c0, c1, c2, c3, c4]
            repeat with_reducible refine And.intro (by first | assumption | omega | (simp; done) | (simp; omega) | (intro hg; simp (config := { decide := true }) only [go_sem, hg]; done) | (intro hg; simp (config := { decide := true }) only [go_sem, hg]; omega)) ?_
            refine hκ _ _ ?_; clear hκ hξ ξ κ
            refine rg [0, 5, 6] [] [] (by kernel_rfl) ?_; intro κ ξ hκ hξ
            try simp (config := { decide := true }) only [go_sem, Nat.reduceMul, Nat.reduceAdd, Nat.reduceBEq, cond_false, c0, c1, c2, c3, c4]
            repeat with_reducible refine And.intro (by first | assumption | omega | (simp; done) | (simp; omega) | (intro hg; simp (config := { decide := true }) only [go_sem, hg]; done) | (intro hg; simp (config := { decide := true }) only [go_sem, hg]; omega)) ?_
            refine hκ _ _ ?_; clear hκ hξ ξ κ
            refine ⟨i + 1, ⟨by omega, by omega⟩, EnvLe.of_eq ?_, .refl _⟩
            have hw : ∀ z : Int, 0 ≤ z → z ≤ 200000 → IntKind.wrap .i64 z = z := fun z h1 h2 => w64 (by omega)
            rw [hw ((i : Int) + 1) (by omega) (by omega)]
            try simp (disch := omega) only [hw]
            rw [wtL_take (by omega)]
            unfold wt1
            clear hw hwr
            simp [*, Int.add_assoc]
          · try simp only [go_sem] at c4
            refine sk ?_
            refine rg [0, 5, 6] [] [] (by kernel_rfl) ?_; intro κ ξ hκ hξ
            try simp (config := { decide := true }) only [go_sem, Nat.reduceMul, Nat.reduceAdd, Nat.reduceBEq, cond_false, c0, c1, c2, c3, c4]
            repeat with_reducible refine And.intro (by first | assumption | omega | (simp; done) | (simp; omega) | (intro hg; simp (config := { decide := true }) only [go_sem, hg]; done) | (intro hg; simp (config := { decide := true }) only [go_sem, hg]; omega)) ?_
            refine hκ _ _ ?_; clear hκ hξ ξ κ
            refine ⟨i + 1, ⟨by omega, by omega⟩, EnvLe.of_eq ?_, .refl _⟩
            have hw : ∀ z : Int, 0 ≤ z → z ≤ 200000 → IntKind.wrap .i64 z = z := fun z h1 h2 => w64 (by omega)
            rw [hw ((i : Int) + 1) (by omega) (by omega)]
            try simp (disch := omega) only [hw]
            rw [wtL_take (by omega)]
            unfold wt1
            clear hw hwr
            simp [*, Int.add_assoc]
        · try simp only [go_sem] at c3
          refine sk ?_
          refine sq ?_
          refine rg [0, 5, 6, 38] [] [] (by kernel_rfl) ?_; intro κ ξ hκ hξ
          try simp (config := { decide := true }) only [go_sem, Nat.reduceMul, Nat.reduceAdd, Nat.reduceBEq, cond_false, c0, c1, c2, c3]
          repeat with_reducible refine And.intro (by first | assumption | omega | (simp; done) | (simp; omega) | (intro hg; simp (config := { decide := true }) only [go_sem, hg]; done) | (intro hg; simp (config := { decide := true }) only [go_sem, hg]; omega)) ?_
          refine hκ _ _ ?_; clear hκ hξ ξ κ
          refine cd (by rfl) (fun c5 => ?_) (fun c5 => ?_)
          · try simp only [go_sem] at c5
            refine rg [0, 5, 6] [] [] (by kernel_rfl) ?_; intro κ ξ hκ hξ
            try simp (config := { decide := true }) only [go_sem, Nat.reduceMul, Nat.reduceAdd, Nat.reduceBEq, cond_false, c0, c1, c2, c3, c5]
            repeat with_reducible refine And.intro (by first | assumption | omega | (simp; done) | (simp; omega) | (intro hg; simp (config := { decide := true }) only [go_sem, hg]; done) | (intro hg; simp (config := { decide := true }) only [go_sem, hg]; omega)) ?_
            refine hκ _ _ ?_; clear hκ hξ ξ κ
            refine rg [0, 5, 6] [] [] (by kernel_rfl) ?_; intro κ ξ hκ hξ
            try simp (config := { decide := true }) only [go_sem, Nat.reduceMul, Nat.reduceAdd, Nat.reduceBEq, cond_false, c0, c1, c2, c3, c5]
            repeat with_reducible refine And.intro (by first | assumption | omega | (simp; done) | (simp; omega) | (intro hg; simp (config := { decide := true }) only [go_sem, hg]; done) | (intro hg; simp (config := { decide := true }) only [go_sem, hg]; omega)) ?_
            refine hκ _ _ ?_; clear hκ hξ ξ κ
            refine ⟨i + 1, ⟨by omega, by omega⟩, EnvLe.of_eq ?_, .refl _⟩
            have hw : ∀ z : Int, 0 ≤ z → z ≤ 200000 → IntKind.wrap .i64 z = z := fun z h1 h2 => w64 (by omega)
            rw [hw ((i : Int) + 1) (by omega) (by omega)]
            try simp (disch := omega) only [hw]
            rw [wtL_take (by omega)]
            unfold wt1
            clear hw hwr
            simp [*, Int.add_assoc]
          · try simp only [go_sem] at c5
            refine sk ?_
            refine rg [0, 5, 6] [] [] (by kernel_rfl) ?_; intro κ ξ hκ hξ
            try simp (config := { decide := true }) only [go_sem, Nat.reduceMul, Nat.reduceAdd, Nat.reduceBEq, cond_false, c0, c1, c2, c3, c5]
            repeat with_reducible refine And.intro (by first | assumption | omega | (simp; done) | (simp; omega) | (intro hg; simp (config := { decide := true }) only [go_sem, hg]; done) | (intro hg; simp (config := { decide := true }) only [go_sem, hg]; omega)) ?_
            refine hκ _ _ ?_; clear hκ hξ ξ κ
            refine ⟨i + 1, ⟨by omega, by omega⟩, EnvLe.of_eq ?_, .refl _⟩
            have hw : ∀ z : Int, 0 ≤ z → z ≤ 200000 → IntKind.wrap .i64 z = z := fun z h1 h2 => w64 (by omega)
            rw [hw ((i : Int) + 1) (by omega) (by omega)]
            try simp (disch := omega) only [hw]
            rw [wtL_take (by omega)]
            unfold wt1
            clear hw hwr
            simp [*, Int.add_assoc]
      · try simp only [go_sem] at c2
        refine sk ?_
        refine sq ?_
        refine sq ?_
        refine rg [0, 5, 6, 30] [] [] (by kernel_rfl) ?_; intro κ ξ hκ hξ
        try simp (config := { decide := true }) only [go_sem, Nat.reduceMul, Nat.reduceAdd, Nat.reduceBEq, cond_false, c0, c1, c2]
        repeat with_reducible refine And.intro (by first | assumption | omega | (simp; done) | (simp; omega) | (intro hg; simp (config := { decide := true }) only [go_sem, hg]; done) | (intro hg; simp (config := { decide := true }) only [go_sem, hg]; omega)) ?_
        refine hκ _ _ ?_; clear hκ hξ ξ κ
        refine cd (by rfl) (fun c6 => ?_) (fun c6 => ?_)
        · try simp only [go_sem] at c6
          refine rg [0, 5, 6] [] [] (by kernel_rfl) ?_; intro κ ξ hκ hξ
          try simp (config := { decide := true }) only [go_sem, Nat.reduceMul, Nat.reduceAdd, Nat.reduceBEq, cond_false, c0, c1, c2, c6]
          repeat with_reducible refine And.intro (by first | assumption | omega | (simp; done) | (simp; omega) | (intro hg; simp (config := { decide := true }) only [go_sem, hg]; done) | (intro hg; simp (config := { decide := true }) only [go_sem, hg]; omega)) ?_
          refine hκ _ _ ?_; clear hκ hξ ξ κ
          refine sq ?_
          refine rg [0, 5, 6, 38] [] [] (by kernel_rfl) ?_; intro κ ξ hκ hξ
          try simp (config := { decide := true }) only [go_sem, Nat.reduceMul, Nat.reduceAdd, Nat.reduceBEq, cond_false, c0, c1, c2, c6]
          repeat with_reducible refine And.intro (by first | assumption | omega | (simp; done) | (simp; omega) | (intro hg; simp (config := { decide := true }) only [go_sem, hg]; done) | (intro hg; simp (config := { decide := true }) only [go_sem, hg]; omega)) ?_
          refine hκ _ _ ?_; clear hκ hξ ξ κ
          refine cd (by rfl) (fun c7 => ?_) (fun c7 => ?_)
          · try simp only [go_sem] at c7
            refine rg [0, 5, 6] [] [] (by kernel_rfl) ?_; intro κ ξ hκ hξ
            try simp (config := { decide := true }) only [go_sem, Nat.reduceMul, Nat.reduceAdd, Nat.reduceBEq, cond_false, c0, c1, c2, c6, c7]
            repeat with_reducible refine And.intro (by first | assumption | omega | (simp; done) | (simp; omega) | (intro hg; simp (config := { decide := true }) only [go_sem, hg]; done) | (intro hg; simp (config := { decide := true }) only [go_sem, hg]; omega)) ?_
            refine hκ _ _ ?_; clear hκ hξ ξ κ
            refine rg [0, 5, 6] [] [] (by kernel_rfl) ?_; intro κ ξ hκ hξ
            try simp (config := { decide := true }) only [go_sem, Nat.reduceMul, Nat.reduceAdd, Nat.reduceBEq, cond_false, c0, c1, c2, c6, c7]
            repeat with_reducible refine And.intro (by first | assumption | omega | (simp; done) | (simp; omega) | (intro hg; simp (config := { decide := true }) only [go_sem, hg]; done) | (intro hg; simp (config := { decide := true }) only [go_sem, hg]; omega)) ?_
            refine hκ _ _ ?_; clear hκ hξ ξ κ
            refine ⟨i + 1, ⟨by omega, by omega⟩, EnvLe.of_eq ?_, .refl _⟩
            have hw : ∀ z : Int, 0 ≤ z → z ≤ 200000 → IntKind.wrap .i64 z = z := fun z h1 h2 => w64 (by omega)
            rw [hw ((i : Int) + 1) (by omega) (by omega)]
            try simp (disch := omega) only [hw]
            rw [wtL_take (by omega)]
            unfold wt1
            clear hw hwr
            simp [*, Int.add_assoc]
          · try simp only [go_sem] at c7
            refine sk ?_
            refine rg [0, 5, 6] [] [] (by kernel_rfl) ?_; intro κ ξ hκ hξ
            try simp (config := { decide := true }) only [go_sem, Nat.reduceMul, Nat.reduceAdd, Nat.reduceBEq, cond_false, c0, c1, c2, c6, c7]
            repeat with_reducible refine And.intro (by first | assumption | omega | (simp; done) | (simp; omega) | (intro hg; simp (config := { decide := true }) only [go_sem, hg]; done) | (intro hg; simp (config := { decide := true }) only [go_sem, hg]; omega)) ?_
            refine hκ _ _ ?_; clear hκ hξ ξ κ
            refine ⟨i + 1, ⟨by omega, by omega⟩, EnvLe.of_eq ?_, .refl _⟩
            have hw : ∀ z : Int, 0 ≤ z → z ≤ 200000 → IntKind.wrap .i64 z = z := fun z h1 h2 => w64 (by omega)
            rw [hw ((i : Int) + 1) (by omega) (by omega)]
            try simp (disch := omega) only [hw]
            rw [wtL_take (by omega)]
            unfold wt1
            clear hw hwr
            simp [*, Int.add_assoc]
        · try simp only [go_sem] at c6
          refine sk ?_
          refine sq ?_
          refine rg [0, 5, 6, 38] [] [] (by kernel_rfl) ?_; intro κ ξ hκ hξ
          try simp (config := { decide := true }) only [go_sem, Nat.reduceMul, Nat.reduceAdd, Nat.reduceBEq, cond_false, c0, c1, c2, c6]
          repeat with_reducible refine And.intro (by first | assumption | omega | (simp; done) | (simp; omega) | (intro hg; simp (config := { decide := true }) only [go_sem, hg]; done) | (intro hg; simp (config := { decide := true }) only [go_sem, hg]; omega)) ?_
          refine hκ _ _ ?_; clear hκ hξ ξ κ
          refine cd (by rfl) (fun c8 => ?_) (fun c8 => ?_)
          · try simp only [go_sem] at c8
            refine rg [0, 5, 6] [] [] (by kernel_rfl) ?_; intro κ ξ hκ hξ
            try simp (config := { decide := true }) only [go_sem, Nat.reduceMul, Nat.reduceAdd, Nat.reduceBEq, cond_false, c0, c1, c2, c6, c8]
            repeat with_reducible refine And.intro (by first | assumption | omega | (simp; done) | (simp; omega) | (intro hg; simp (config := { decide := true }) only [go_sem, hg]; done) | (intro hg; simp (config := { decide := true }) only [go_sem, hg]; omega)) ?_
            refine hκ _ _ ?_; clear hκ hξ ξ κ
            refine rg [0, 5, 6] [] [] (by kernel_rfl) ?_; intro κ ξ hκ hξ
            try simp (config := { decide := true }) only [go_sem, Nat.reduceMul, Nat.reduceAdd, Nat.reduceBEq, cond_false, c0, c1, c2, c6, c8]
            repeat with_reducible refine And.intro (by first | assumption | omega | (simp; done) | (simp; omega) | (intro hg; simp (config := { decide := true }) only [go_sem, hg]; done) | (intro hg; simp (config := { decide := true }) only [go_sem, hg]; omega)) ?_
            refine hκ _ _ ?_; clear hκ hξ ξ κ
            refine ⟨i + 1, ⟨by omega, by omega⟩, EnvLe.of_eq ?_, .refl _⟩
            have hw : ∀ z : Int, 0 ≤ z → z ≤ 200000 → IntKind.wrap .i64 z = z := fun z h1 h2 => w64 (by omega)
            rw [hw ((i : Int) + 1) (by omega) (by omega)]
            try simp (disch := omega) only [hw]
            rw [wtL_take (by omega)]
            unfold wt1
            clear hw hwr
            simp [*, Int.add_assoc]
          · try simp only [go_sem] at c8
            refine sk ?_
            refine rg [0, 5, 6] [] [] (by kernel_rfl) ?_; intro κ ξ hκ hξ
            try simp (config := { decide := true }) only [go_sem, Nat.reduceMul, Nat.reduceAdd, Nat.reduceBEq, cond_false, c0, c1, c2, c6, c8]
            repeat with_reducible refine And.intro (by first | assumption | omega | (simp; done) | (simp; omega) | (intro hg; simp (config := { decide := true }) only [go_sem, hg]; done) | (intro hg; simp (config := { decide := true }) only [go_sem, hg]; omega)) ?_
            refine hκ _ _ ?_; clear hκ hξ ξ κ
            refine ⟨i + 1, ⟨by omega, by omega⟩, EnvLe.of_eq ?_, .refl _⟩
            have hw : ∀ z : Int, 0 ≤ z → z ≤ 200000 → IntKind.wrap .i64 z = z := fun z h1 h2 => w64 (by omega)
            rw [hw ((i : Int) + 1) (by omega) (by omega)]
            try simp (disch := omega) only [hw]
            rw [wtL_take (by omega)]
            unfold wt1
            clear hw hwr
            simp [*, Int.add_assoc]
    · try simp only [go_sem] at c1
      refine ex ?_
      refine sq ?_
      refine rg [2, 3] [] [] (by kernel_rfl) ?_; intro κ ξ hκ hξ
      try simp (config := { decide := true }) only [go_sem, Nat.reduceMul, Nat.reduceAdd, Nat.reduceBEq, cond_false, c0, c1]
      repeat with_reducible refine And.intro (by first | assumption | omega | (simp; done) | (simp; omega) | (intro hg; simp (config := { decide := true }) only [go_sem, hg]; done) | (intro hg; simp (config := { decide := true }) only [go_sem, hg]; omega)) ?_
      refine hκ _ _ ?_; clear hκ hξ ξ κ
      refine rt ?_
      refine retE ?_
      simp (config := { decide := true }) only [go_sem, resD, resV, c0, c1]
      obtain rfl : i = ts.length := by omega
      rw [List.take_length]
      all_goals simp [hv]

theorem few_w (l : List Nd) (ts : List Ts) (t u : Tok) : PCall Try.prog (.func 17) [.sl 5 (l.map nrow) t, .sl 4 (ts.map trow) u] (.bool (decide (l.length ≤ 40 ∧ ts.length ≤ 20))) := by
  refine PCall.le ?_
  refine fn_ Try.func17 (by rfl) (by rfl) (rs := [.tmp 4]) (by rfl) (by simp [Try.f17]) ?_
  refine sq ?_
  refine rg [0, 1] [] [] (by kernel_rfl) ?_; intro κ ξ hκ hξ
  try simp (config := { decide := true }) only [go_sem, Nat.reduceMul, Nat.reduceAdd, Nat.reduceBEq, cond_false]
  repeat with_reducible refine And.intro (by first | assumption | omega | (simp; done) | (simp; omega) | (intro hg; simp (config := { decide := true }) only [go_sem, hg]; done) | (intro hg; simp (config := { decide := true }) only [go_sem, hg]; omega)) ?_
  refine hκ _ _ ?_; clear hκ hξ ξ κ
  refine sq ?_
  refine rg [4] [] [(3, 8)] (by kernel_rfl) ?_; intro κ ξ hκ hξ
  try simp (config := { decide := true }) only [go_sem, Nat.reduceMul, Nat.reduceAdd, Nat.reduceBEq, cond_false]
  repeat with_reducible refine And.intro (by first | assumption | omega | (simp; done) | (simp; omega) | (intro hg; simp (config := { decide := true }) only [go_sem, hg]; done) | (intro hg; simp (config := { decide := true }) only [go_sem, hg]; omega)) ?_
  refine hκ _ _ ?_; clear hκ hξ ξ κ
  refine rt ?_
  refine retE ?_
  simp (config := { decide := true }) only [go_sem, resD, resV]
  all_goals congr 1
  all_goals rw [Bool.eq_iff_iff]
  all_goals simp
  all_goals omega

theorem usable_w (l : List Nd) (ts : List Ts) (t u : Tok) : PCall Try.prog (.func 27) [.sl 5 (l.map nrow) t, .sl 4 (ts.map trow) u] (.bool (decide (l.length ≤ 40 ∧ ts.length ≤ 20) && treB l && selB ts)) := by
  refine PCall.le ?_
  refine fn_ Try.func27 (by rfl) (by rfl) (rs := [.tmp 4]) (by rfl) (by simp [Try.f27]) ?_
  refine sq ?_
  refine rg [0, 1] [] [] (by kernel_rfl) ?_; intro κ ξ hκ hξ
  try simp (config := { decide := true }) only [go_sem, Nat.reduceMul, Nat.reduceAdd, Nat.reduceBEq, cond_false]
  repeat with_reducible refine And.intro (by first | assumption | omega | (simp; done) | (simp; omega) | (intro hg; simp (config := { decide := true }) only [go_sem, hg]; done) | (intro hg; simp (config := { decide := true }) only [go_sem, hg]; omega)) ?_
  refine hκ _ _ ?_; clear hκ hξ ξ κ
  refine sq ?_
  refine rg [4] [] [(3, 8), (7, 12)] (by kernel_rfl) ?_; intro κ ξ hκ hξ
  try simp (config := { decide := true }) only [go_sem, Nat.reduceMul, Nat.reduceAdd, Nat.reduceBEq, cond_false]
  repeat with_reducible refine And.intro (by first | assumption | omega | (simp; done) | (simp; omega) | (intro hg; simp (config := { decide := true }) only [go_sem, hg]; done) | (intro hg; simp (config := { decide := true }) only [go_sem, hg]; omega)) ?_
  refine callF (few_w _ _ _ _) ?_
  try simp (config := { decide := true }) only [go_sem, Nat.reduceMul, Nat.reduceAdd, Nat.reduceBEq, cond_false]
  repeat with_reducible refine And.intro (by first | assumption | omega | (simp; done) | (simp; omega) | (intro hg; simp (config := { decide := true }) only [go_sem, hg]; done) | (intro hg; simp (config := { decide := true }) only [go_sem, hg]; omega)) ?_
  refine vo_gc ?_; simp (config := { decide := true }) only [go_sem]; refine gcallF (fun hg => ⟨by first | rfl | (simp (config := { decide := true }) only [go_sem, hg]; done) | exact hg | simpa using hg, rtre_w _ _⟩) ?_
  try simp (config := { decide := true }) only [go_sem, Nat.reduceMul, Nat.reduceAdd, Nat.reduceBEq, cond_false]
  repeat with_reducible refine And.intro (by first | assumption | omega | (simp; done) | (simp; omega) | (intro hg; simp (config := { decide := true }) only [go_sem, hg]; done) | (intro hg; simp (config := { decide := true }) only [go_sem, hg]; omega)) ?_
  refine vo_gc ?_; simp (config := { decide := true }) only [go_sem]; refine gcallF (fun hg => ⟨by first | rfl | (simp (config := { decide := true }) only [go_sem, hg]; done) | exact hg | simpa using hg, rsel_w _ _⟩) ?_
  try simp (config := { decide := true }) only [go_sem, Nat.reduceMul, Nat.reduceAdd, Nat.reduceBEq, cond_false]
  repeat with_reducible refine And.intro (by first | assumption | omega | (simp; done) | (simp; omega) | (intro hg; simp (config := { decide := true }) only [go_sem, hg]; done) | (intro hg; simp (config := { decide := true }) only [go_sem, hg]; omega)) ?_
  refine hκ _ _ ?_; clear hκ hξ ξ κ
  refine rt ?_
  refine retE ?_
  simp (config := { decide := true }) only [go_sem, resD, resV]
  all_goals (cases treB l <;> cases selB ts <;> simp)

end Go.Proofs.Ytgccnkihonmlbaa

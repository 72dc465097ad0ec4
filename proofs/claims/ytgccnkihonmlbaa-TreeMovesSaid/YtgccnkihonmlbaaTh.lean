/- The walk of the reference's Way. Printed by a tool of our own. -/
import Derived.Test.YtgccnkihonmlbaaTb
namespace Go.Proofs.Ytgccnkihonmlbaa
open Go Go.RowKit
set_option linter.unusedSimpArgs false
set_option linter.unusedVariables false
set_option maxHeartbeats 4000000
set_option maxRecDepth 100000
theorem napp_full {P : Program} {σ : Store} {ts : Array TypeId} {T U V : TypeId} {g : Bool} {sz by_ n : Nat} {z : List D} {rows new : List (List D)} {tk : Tok} {K : D → Store → Prop}
    (hn : rows.length = n) (hT : ts[0]? = some T) (hV : ts[1]? = some V) (hV' : (sle P V).isSome = true) (hs : sle P T = some (U, g, sz)) (hy : eby P T = some by_) (hz : zc P U = some z)
    (hside : (z.length = sz ∧ 0 < sz ∧ 0 < by_) ∧ new.all (·.all D.isCell) = true ∧ (n + new.length) * by_ ≤ capB)
    (h0 : new = [] → K (.sl sz rows .full) σ) (hK : ∀ b c, b ∉ σ.keys → K (.sl sz (rows ++ new) (.own b c)) ((b, .tail sz (n + new.length) c) :: σ)) :
    napp P σ ts (.sl sz rows .full) (.sl sz new tk) K := by
  subst hn
  obtain ⟨⟨hz1, hs0, hb0⟩, hc, hfit⟩ := hside
  unfold napp
  simp only [hT, Option.bind_some, hs, hy, rowsOf]
  exact ⟨⟨⟨z, hz, hz1⟩, ⟨V, hV, .inl hV'⟩, hs0, hb0, by simp, by simp, hc, hfit⟩, h0, fun _ b cap hb => hK b cap hb⟩
def wid (l : List Nd) (i j : Nat) : Int := if j ≤ (chn l i).length then (nat l (cur l i j)).id else 0
theorem wid_next {l : List Nd} (hT : Tree l) {i j : Nat} (hi : i < l.length) (hj : j ≤ (chn l i).length) : (nat l (cur l i j)).par = wid l i (j + 1) := by
  obtain ⟨hcp, hcl⟩ := cur_pix (l := l) (i := i) hj
  have hup := up_pix hT (show cur l i j < l.length by omega)
  have hpz := par_zero hT (show cur l i j < l.length by omega)
  unfold wid
  by_cases h : j + 1 ≤ (chn l i).length
  · rw [if_pos h]
    have e : (chn l i)[j]? = some (chn l i)[j] := List.getElem?_eq_getElem (by omega)
    have hc : pix l (cur l i j) = ((chn l i)[j] : Nat) := by rw [hcp]; simp [upc, e]
    rw [cur_succ e]
    rcases idx_cases l (nat l (cur l i j)).par with ⟨y, hy, h1, _, h3⟩ | ⟨_, h3⟩
    · have : y = (chn l i)[j] := by omega
      rw [← this, h1]
    · omega
  · rw [if_neg h]
    refine hpz.2 ?_
    rw [hcp]
    have : (chn l i)[j]? = none := List.getElem?_eq_none_iff.2 (by omega)
    simp [upc, this]
theorem upL_wid {l : List Nd} {i j : Nat} (hj : j ≤ (chn l i).length) : (((upL l i).take (j + 1)).reverse.map irow) = [.int .i64 (wid l i j)] :: ((upL l i).take j).reverse.map irow := by
  have e : (upL l i)[j]? = some (wid l i j) := by
    unfold upL wid cur
    rw [if_pos hj, List.getElem?_map, List.getD_eq_getElem?_getD]
    have : (i :: chn l i)[j]? = some ((i :: chn l i)[j]'(by simp; omega)) := List.getElem?_eq_getElem (by simp; omega)
    rw [this]; rfl
  rw [List.take_add_one, e]
  simp [irow]
attribute [local go_sem ↓] vo_nil vK_eq vo_q vo_g vo_n vo_c vd_nil dK_eq eK_eq vd_q vd_g vd_n vd_st vd_c cgs_call cgs_builtin
attribute [local go_sem] Ext_refl Ext_cons
attribute [local go_sem] quiet_move quiet_assign quiet_pick quiet_binOp quiet_unOp quiet_convert quiet_field quiet_fieldAddr quiet_indexAddr quiet_index quiet_load quiet_lookup quiet_extract quiet_build quiet_makeInterface quiet_makeFunc quiet_slice quiet_nilCheck quiet_alloc isCall_alloc quiet_box isCall_box quiet_buildSlice isCall_buildSlice quiet_store isCall_store quiet_range isCall_range quiet_next isCall_next quiet_makeSlice isCall_makeSlice quiet_panic isCall_panic quiet_len quiet_cap quiet_min quiet_max quiet_append isCall_append quiet_copy isCall_copy quiet_delete isCall_delete nqk_alloc nqk_box nqk_buildSlice nqk_range nqk_next nqk_makeSlice nqk_panic nqk_makeMap nqk_entry nqk_append nqk_copy nqk_delete isSt_alloc isSt_box isSt_buildSlice isSt_range isSt_next isSt_makeSlice isSt_panic isSt_makeMap isSt_entry isSt_store isSt_mapUpdate isSt_insert isSt_append isSt_copy isSt_delete quiet_makeMap isCall_makeMap quiet_mapUpdate isCall_mapUpdate quiet_insert isCall_insert
attribute [local go_sem] argEnv qev opd put_some put_none set_at mk_cons mk_nil prune_eq D.ofV ofC_int ofC_nil ofC_str ofC_nilmap ofC_nilfunc ofC_nilptr true_and ofC_bool bop isSh ibop Bool.false_eq_true if_false if_true and_self D.core D.cg qpick isB bof gval look Option.bind_some opc cgs Op.operands List.all_cons List.all_nil Bool.and_true and_true true_imp_iff imp_self false_imp_iff beq_true beq_false beq_iff_eq decide_eq_true_eq List.map_cons List.map_nil Bool.not_eq_true' decide_eq_false_iff_not gof gq gev cond_some Option.isSome_some Bool.or_eq_true Bool.and_eq_true Bool.or_eq_false_iff Bool.and_eq_false_iff Bool.not_eq_true Bool.not_eq_false Bool.not_eq_false' ne_eq implies_true forall_const Bool.cond_true_left Bool.cond_false_right not_false_eq_true not_true_eq_false Int.toNat_natCast Int.toNat_zero
attribute [local go_sem] qbuiltin qlook ments foldI mget mput keqD keyOK lookD_s lookD_n lookD_fs lookD_fn nput agop deqF deq1 nappZ cond_true cond_false Option.getD_some Option.getD_none Option.isSome_none ite_self qindex qslice qconv qextract qfield qfaddr qiaddr qload quop qiface qbuild qnil ldC ldD ob List.drop_succ_cons take_mapr drop_mapr List.drop_zero List.take_succ_cons List.take_zero List.length_cons List.length_nil List.getElem?_cons_zero List.getElem?_cons_succ Option.map_some Option.map_none List.head?_cons
attribute [local go_sem] nev isImm List.contains_cons List.contains_nil Bool.or_false Bool.or_true D.flat D.cellsOf D.isCell Bool.or_self Bool.and_self szOf nstore Store.get Store.upd putCells nk_cons not_or FZ frzE_mk frzL inL frz Store.del or_false boxCells List.headD_cons List.headD_nil List.nil_append List.append_nil List.cons_append List.drop_nil false_and and_false false_or true_or or_true Bool.false_and Bool.true_and Bool.false_or Bool.true_or Bool.and_false setPs lim_eq chunk zrep pls_eq plsF fillD resAll shop sbop bbop decide_true decide_false Bool.not_true Bool.not_false eq_self
attribute [local go_sem] tf0 tf1 tf2 tf3 tf4 tf5 tf6 tf7 tf8 tf9 tf10 tf11 tf12 tf13 tf14 tf15 tf16 tf17 tf18 tf19 tf20 tf21 tf22 tf23 tf24 tf25 tf26 tf27 tf28 tf29 tf30 tf31 tf32 tf33 tf34 tf35 tf36 tf37 tf38 tf39 tf40 tf41 tf42 tf43 tf44 tf45 tf46 tf47 tf48 tf49 tf50 tf51 tf52 tf53 tf54 tf55 tf56 tf57 tf58 tf59 tf60 tf61 tf62 tf63 tf64 tf65 tf66 tf67 tf68 tf69 tf70 tf71 tf72 tf73 tf74 tf75 tf76 tf77 tf78 tf79 tf80 tf81 tf82 tf83 tf84 tf85 tf86 tf87 tf88 tf89 tf90 tf91 tf92 tf93 tf94 tf95 tf96 tf97 tf98 tf99 tf100 tf101 tf102 tf103 tf104 tf105 tf106 tf107 tf108 tf109 tf110 tf111 tf112 tf113 tf114 tf115 tf116 tf117 tf118 tf119 tf120 tf121 tf122 tf123 tf124 tf125 tf126 tf127 tf128 tf129 tf130 tf131 tf132 tf133 tf134 tf135 tf136 tf137 tf138 tf139 tf140 tf141 tf142 tf143 tf144 tf145 tf146 tf147 tf148 tf149 tf150 tf151 tf152 tf153 tf154 tf155 tf156 tf157 tf158 tf159 tf160 tf161 tf162 tf163 tf164 tf165 tf166 tf167 tf168 tf169 tf170 tf171 tf172 tf173 tf174 tf175 tf176 tf177 tf178 tf179 tf180 tf181 tf182 tf183 tf184 tf185 tf186 tf187 tf188 tf189 tf190 tf191 tf192 tf193 tf194 tf195 tf196 tf197 tf198 tf199 tf200 tf201 tf202 tf203 tf204 tf205 tf206 tf207 tf208 tf209 tf210 tf211 tf212 tf213 tf214 tf215 tf216 tf217 tf218 tf219 tf220 tf221 tf222 tf223 tf224 tf225 tf226 tf227 tf228 tf229 tf230 tf231 tf232 tf233 tf234 tf235 tf236 tf237 tf238 tf239 tf240 tf241 tf242 tf243 tf244 tf245 tf246 tf247 tf248 tf249 tf250 tf251 tf252
attribute [local go_sem] List.length_map rowAt_n nrow rowAt_t trow rowAt_i irow
attribute [local go_sem] for_put for_put' for_look for_look'
theorem way_w (l : List Nd) (t : Tok) (i : Nat) (hT : Tree l) (hi : i < l.length) : PCall Try.prog (.func 72) [.sl 5 (l.map nrow) t, .int .i64 (nat l i).id] (.sl 1 ((pathL l i).map irow) .no) := by
  have hcl0 := chn_len l i
  have hd30 := hT.deep i hi
  have hl4 := hT.len.2
  refine PCall.le ?_
  refine fn_ Try.func72 (by rfl) (by rfl) (rs := [.tmp 4]) (by rfl) (by simp [Try.f72]) ?_
  refine sq ?_
  refine rg [0, 1] [] [] (by kernel_rfl) ?_; intro κ ξ hκ hξ
  try simp (config := { decide := true }) only [go_sem, Nat.reduceMul, Nat.reduceAdd, Nat.reduceBEq, cond_false]
  repeat with_reducible refine And.intro (by first | assumption | omega | (simp; done) | (simp; omega) | (intro hg; simp (config := { decide := true }) only [go_sem, hg]; done) | (intro hg; simp (config := { decide := true }) only [go_sem, hg]; omega)) ?_
  refine hκ _ _ ?_; clear hκ hξ ξ κ
  refine sq ?_
  refine rg [0, 1, 5] [] [] (by kernel_rfl) ?_; intro κ ξ hκ hξ
  try simp (config := { decide := true }) only [go_sem, Nat.reduceMul, Nat.reduceAdd, Nat.reduceBEq, cond_false]
  repeat with_reducible refine And.intro (by first | assumption | omega | (simp; done) | (simp; omega) | (intro hg; simp (config := { decide := true }) only [go_sem, hg]; done) | (intro hg; simp (config := { decide := true }) only [go_sem, hg]; omega)) ?_
  refine hκ _ _ ?_; clear hκ hξ ξ κ
  refine sq ?_
  refine bl ?_
  refine lp (α := Nat) (fun j => mk [(0, .sl 5 (l.map nrow) t), (1, .int .i64 (wid l i j)), (5, .sl 1 (((upL l i).take j).reverse.map irow) .no)]) (fun _ => []) (fun j => j ≤ (chn l i).length + 1) (fun j => (chn l i).length + 1 - j) 0 ⟨by omega, EnvLe.cons (DLe.refl _) (EnvLe.cons (DLe.refl _) (EnvLe.cons (DLe.nil _ _ _) (EnvLe.of_eq rfl))), .refl _⟩ ?_
  intro j hj
  refine sq ?_
  refine sq ?_
  refine rg [0, 1, 5, 7] [] [] (by kernel_rfl) ?_; intro κ ξ hκ hξ
  try simp (config := { decide := true }) only [go_sem, Nat.reduceMul, Nat.reduceAdd, Nat.reduceBEq, cond_false]
  repeat with_reducible refine And.intro (by first | assumption | omega | (simp; done) | (simp; omega) | (intro hg; simp (config := { decide := true }) only [go_sem, hg]; done) | (intro hg; simp (config := { decide := true }) only [go_sem, hg]; omega)) ?_
  refine hκ _ _ ?_; clear hκ hξ ξ κ
  refine cd (by rfl) (fun c0 => ?_) (fun c0 => ?_)
  · simp only [go_sem] at c0
    have hjl : j ≤ (chn l i).length := by
      rcases Nat.lt_or_ge (chn l i).length j with h | h
      · exact absurd (by unfold wid; rw [if_neg (by omega)]) c0
      · exact h
    refine sk ?_
    refine bl ?_
    refine jn (α := Unit) (fun _ => mk [(0, .sl 5 (l.map nrow) t), (1, .int .i64 (wid l i j)), (5, .sl 1 (((upL l i).take (j + 1)).reverse.map irow) .no)]) (fun _ => []) (fun _ => True) ?_ ?_
    · refine rg [0, 1, 5] [] [] (by kernel_rfl) ?_; intro κ ξ hκ hξ
      try simp (config := { decide := true }) only [go_sem, Nat.reduceMul, Nat.reduceAdd, Nat.reduceBEq, cond_false, c0]
      repeat with_reducible refine And.intro (by first | assumption | omega | (simp; done) | (simp; omega) | (intro hg; simp (config := { decide := true }) only [go_sem, hg]; done) | (intro hg; simp (config := { decide := true }) only [go_sem, hg]; omega)) ?_
      refine napp_full (rows := [[.int .i64 (wid l i j)]]) (n := 1) rfl rfl rfl (by simp (config := { decide := true }) only [go_sem, Option.isSome_some]) tf117 tf118 tf36 (by refine ⟨⟨rfl, by decide, by decide⟩, ?_, ?_⟩; exact (by rw [List.all_map, List.all_eq_true]; intro t _; rfl); rw [List.length_map, List.length_reverse, List.length_take]; simp [capB]; omega) ?_ ?_
      · intro h0
        try simp (config := { decide := true }) only [go_sem, Nat.reduceMul, Nat.reduceAdd, Nat.reduceBEq, cond_false, c0]
        repeat with_reducible refine And.intro (by first | assumption | omega | (simp; done) | (simp; omega) | (intro hg; simp (config := { decide := true }) only [go_sem, hg]; done) | (intro hg; simp (config := { decide := true }) only [go_sem, hg]; omega)) ?_
        refine hκ _ _ ?_; clear hκ hξ ξ κ
        exact ⟨(), trivial, EnvLe.cons (DLe.refl _) (EnvLe.cons (DLe.refl _) (EnvLe.cons (by rw [upL_wid hjl, h0]; exact DLe.tok _ _ _) (EnvLe.of_eq rfl))), List.nil_sublist _⟩
      · intro b11 c11 hb11
        try simp (config := { decide := true }) only [go_sem, Nat.reduceMul, Nat.reduceAdd, Nat.reduceBEq, cond_false, c0]
        repeat with_reducible refine And.intro (by first | assumption | omega | (simp; done) | (simp; omega) | (intro hg; simp (config := { decide := true }) only [go_sem, hg]; done) | (intro hg; simp (config := { decide := true }) only [go_sem, hg]; omega)) ?_
        refine hκ _ _ ?_; clear hκ hξ ξ κ
        exact ⟨(), trivial, EnvLe.cons (DLe.refl _) (EnvLe.cons (DLe.refl _) (EnvLe.cons (by rw [upL_wid hjl]; exact DLe.tok _ _ _) (EnvLe.of_eq rfl))), List.nil_sublist _⟩
    · rintro _ _
      have hcp := (cur_pix (l := l) (i := i) hjl).2
      have hcl3 : ((cur l i j : Nat) : Int) < (l.length : Int) := by omega
      have hwi : idx l (wid l i j) = ((cur l i j : Nat) : Int) := by unfold wid; rw [if_pos hjl]; exact idx_self hT (by omega)
      have hwn := wid_next hT hi hjl
      have h0c : (0 : Int) ≤ ((cur l i j : Nat) : Int) := by omega
      refine rg [0, 1, 5] [] [] (by kernel_rfl) ?_; intro κ ξ hκ hξ
      try simp (config := { decide := true }) only [go_sem, Nat.reduceMul, Nat.reduceAdd, Nat.reduceBEq, cond_false, c0, hwi, hcl3, h0c, Int.toNat_natCast, hwn]
      repeat with_reducible refine And.intro (by first | assumption | omega | (simp; done) | (simp; omega) | (intro hg; simp (config := { decide := true }) only [go_sem, hg]; done) | (intro hg; simp (config := { decide := true }) only [go_sem, hg]; omega)) ?_
      refine callF (ridx_w _ _ _) ?_
      try simp (config := { decide := true }) only [go_sem, Nat.reduceMul, Nat.reduceAdd, Nat.reduceBEq, cond_false, c0, hwi, hcl3, h0c, Int.toNat_natCast, hwn]
      repeat with_reducible refine And.intro (by first | assumption | omega | (simp; done) | (simp; omega) | (intro hg; simp (config := { decide := true }) only [go_sem, hg]; done) | (intro hg; simp (config := { decide := true }) only [go_sem, hg]; omega)) ?_
      refine hκ _ _ ?_; clear hκ hξ ξ κ
      exact ⟨j + 1, ⟨by omega, by omega⟩, EnvLe.of_eq rfl, .refl _⟩
  · simp only [go_sem] at c0
    have hje : j = (chn l i).length + 1 := by
      rcases Nat.lt_or_ge (chn l i).length j with h | h
      · omega
      · have := (fm_id (hT.form (cur l i j) (by have := (cur_pix (l := l) (i := i) h).2; omega))).1
        unfold wid at c0
        rw [if_pos h] at c0
        omega
    have hue : (upL l i).take j = upL l i := List.take_of_length_le (by rw [upL_len]; omega)
    refine ex ?_
    refine sq ?_
    refine rg [4] [] [] (by kernel_rfl) ?_; intro κ ξ hκ hξ
    try simp (config := { decide := true }) only [go_sem, Nat.reduceMul, Nat.reduceAdd, Nat.reduceBEq, cond_false, c0, hue]
    repeat with_reducible refine And.intro (by first | assumption | omega | (simp; done) | (simp; omega) | (intro hg; simp (config := { decide := true }) only [go_sem, hg]; done) | (intro hg; simp (config := { decide := true }) only [go_sem, hg]; omega)) ?_
    refine hκ _ _ ?_; clear hκ hξ ξ κ
    refine rt ?_
    refine retL ?_
    simp (config := { decide := true }) only [go_sem, resD, resV, c0, hue]
    exact DLe.refl _

end Go.Proofs.Ytgccnkihonmlbaa

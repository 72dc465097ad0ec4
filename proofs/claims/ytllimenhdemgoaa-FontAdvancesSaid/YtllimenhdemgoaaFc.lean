/- The walks of package font, second part. Printed by a tool of our own. -/
import Derived.Test.YtllimenhdemgoaaFb
namespace Go.Proofs.Ytllimenhdemgoaa
open Go Go.RowKit
set_option linter.unusedSimpArgs false
set_option linter.unusedVariables false
set_option maxHeartbeats 4000000
set_option maxRecDepth 100000
theorem sat_range (s : List UInt8) (i : Nat) : 0 ≤ sat s i ∧ sat s i ≤ 255 := by
  unfold sat
  have := (s.getD i 0).toNat_lt
  omega
theorem tv_false {s : List UInt8} {i : Nat} (hi : i < s.length) (h : cls (sat s i) = 0) : tv s = false := by
  cases e : tv s with
  | false => rfl
  | true => exact absurd h (tv_at e hi)
theorem tv_all {s : List UInt8} (h : ∀ j, j < s.length → cls (sat s j) ≠ 0) : tv s = decide (s.length ≤ 2000) := by
  unfold tv
  rw [decide_eq_decide]
  refine ⟨fun h => h.2, fun h2 => ⟨fun c hc => ?_, h2⟩⟩
  obtain ⟨j, hj, rfl⟩ := List.getElem_of_mem hc
  have := h j hj
  unfold sat at this
  simpa [hj] using this
def shown (s : List UInt8) : List UInt8 := s.filter fun c => decide (c ≠ 126)
def brow (c : UInt8) : List D := [.int .u8 (c.toNat : Int)]
def bat (l : List UInt8) (i : Nat) : UInt8 := l.getD i 0
theorem rowAt_b {l : List UInt8} {i : Nat} (h : (i : Int) < (l.length : Int)) : rowAt (l.map brow) i = brow (bat l i) := rowAt_map brow _ h
theorem shown_take {s : List UInt8} {i : Nat} (h : i < s.length) : shown (s.take (i + 1)) = if sat s i = 126 then shown (s.take i) else shown (s.take i) ++ [s.getD i 0] := by
  have e : s.getD i 0 = s[i] := by simp [h]
  unfold sat shown
  rw [e, List.take_succ_eq_append_getElem h, List.filter_append]
  have h3 : ((s[i].toNat : Int) = 126) ↔ s[i] = 126 := by
    constructor
    · intro hh; apply UInt8.toNat_inj.1; show _ = 126; omega
    · intro hh; rw [hh]; rfl
  by_cases hc : s[i] = 126
  · rw [if_pos (h3.2 hc)]; simp [hc]
  · rw [if_neg (fun hh => hc (h3.1 hh))]; simp [hc]
theorem shown_len (s : List UInt8) : (shown s).length ≤ s.length := List.length_filter_le _ _
def cnt (s : List UInt8) (b : Int) : Nat := (s.filter fun c => decide ((c.toNat : Int) = b)).length
theorem cnt_take {s : List UInt8} {b : Int} {i : Nat} (h : i < s.length) : cnt (s.take (i + 1)) b = if sat s i = b then cnt (s.take i) b + 1 else cnt (s.take i) b := by
  have e : s.getD i 0 = s[i] := by simp [h]
  unfold sat cnt
  rw [e, List.take_succ_eq_append_getElem h, List.filter_append]
  by_cases hc : (s[i].toNat : Int) = b
  · rw [if_pos hc]; simp [hc]
  · rw [if_neg hc]; simp [hc]
theorem cnt_le (s : List UInt8) (b : Int) : cnt s b ≤ s.length := List.length_filter_le _ _
theorem gat_range {gs : List Gl} (h : okRows (gs.map grow)) {i : Nat} (hi : i < gs.length) : (0 ≤ (gat gs i).1 ∧ (gat gs i).1 ≤ 255) ∧ -9223372036854775808 ≤ (gat gs i).2 ∧ (gat gs i).2 ≤ 9223372036854775807 := by
  have := (okRows_map grow gs).1 h (gat gs i) (by simp [gat, hi])
  simp only [grow, okAll, D.ok, inR_u8', inR_i64', and_true] at this
  exact this
theorem kat_range {ks : List Kn} (h : okRows (ks.map krow)) {i : Nat} (hi : i < ks.length) : (0 ≤ (kat ks i).1 ∧ (kat ks i).1 ≤ 255) ∧ (0 ≤ (kat ks i).2.1 ∧ (kat ks i).2.1 ≤ 255) ∧ -9223372036854775808 ≤ (kat ks i).2.2 ∧ (kat ks i).2.2 ≤ 9223372036854775807 := by
  have := (okRows_map krow ks).1 h (kat ks i) (by simp [kat, hi])
  simp only [krow, okAll, D.ok, inR_u8', inR_i64', and_true] at this
  exact this
theorem gget_range {gs : List Gl} (hG : ∀ i, i < gs.length → gok gs i) (b : Int) : 0 ≤ (gget gs b).2 ∧ (gget gs b).2 ≤ 1000 := by
  unfold gget
  rcases gidx_cases gs b with ⟨i, hi, e, hg⟩ | ⟨hn, hg⟩
  · rw [hg, if_pos (by omega), Int.toNat_natCast]
    have := hG i hi
    unfold gok at this
    omega
  · rw [hg, if_neg (by omega)]; decide
theorem kby_iff {a b : Int} (ha : 0 ≤ a ∧ a ≤ 1000) : (b < -1000 ∨ 1000 < b ∨ IntKind.wrap .i64 (a + b) < 0) ↔ ¬ (b ≤ 1000 ∧ -a ≤ b) := by
  by_cases h1 : b < -1000
  · exact ⟨fun _ => by omega, fun _ => .inl h1⟩
  · by_cases h2 : 1000 < b
    · exact ⟨fun _ => by omega, fun _ => .inr (.inl h2)⟩
    · rw [w64 (by omega)]; omega
attribute [local go_sem ↓] vo_nil vK_eq vo_q vo_g vo_n vo_c vd_nil dK_eq eK_eq vd_q vd_g vd_n vd_st vd_c cgs_call cgs_builtin
attribute [local go_sem] Ext_refl Ext_cons
attribute [local go_sem] quiet_move quiet_assign quiet_pick quiet_binOp quiet_unOp quiet_convert quiet_field quiet_fieldAddr quiet_indexAddr quiet_index quiet_load quiet_lookup quiet_extract quiet_build quiet_makeInterface quiet_makeFunc quiet_slice quiet_nilCheck quiet_alloc isCall_alloc quiet_box isCall_box quiet_buildSlice isCall_buildSlice quiet_store isCall_store quiet_range isCall_range quiet_next isCall_next quiet_makeSlice isCall_makeSlice quiet_panic isCall_panic quiet_len quiet_cap quiet_min quiet_max quiet_append isCall_append quiet_copy isCall_copy quiet_delete isCall_delete nqk_alloc nqk_box nqk_buildSlice nqk_range nqk_next nqk_makeSlice nqk_panic nqk_makeMap nqk_entry nqk_append nqk_copy nqk_delete isSt_alloc isSt_box isSt_buildSlice isSt_range isSt_next isSt_makeSlice isSt_panic isSt_makeMap isSt_entry isSt_store isSt_mapUpdate isSt_insert isSt_append isSt_copy isSt_delete quiet_makeMap isCall_makeMap quiet_mapUpdate isCall_mapUpdate quiet_insert isCall_insert
attribute [local go_sem] argEnv qev opd put_some put_none set_at mk_cons mk_nil prune_eq D.ofV ofC_int ofC_str true_and ofC_bool bop isSh ibop Bool.false_eq_true if_false if_true and_self D.core D.cg qpick isB bof gval look Option.bind_some opc cgs Op.operands List.all_cons List.all_nil Bool.and_true and_true true_imp_iff imp_self false_imp_iff beq_true beq_false beq_iff_eq decide_eq_true_eq List.map_cons List.map_nil Bool.not_eq_true' decide_eq_false_iff_not gof gq gev cond_some Option.isSome_some Bool.or_eq_true Bool.and_eq_true Bool.or_eq_false_iff Bool.and_eq_false_iff Bool.not_eq_true Bool.not_eq_false Bool.not_eq_false' ne_eq implies_true forall_const Bool.cond_true_left Bool.cond_false_right not_false_eq_true not_true_eq_false Int.toNat_natCast Int.toNat_zero
attribute [local go_sem] qbuiltin qlook ments foldI mget mput keqD keyOK lookD nput agop deqF deq1 nappZ cond_true cond_false Option.getD_some Option.getD_none Option.isSome_none ite_self qindex qslice qconv qextract qfield qfaddr qiaddr qload quop qiface qbuild qnil ldC ldD ob List.drop_succ_cons List.drop_zero List.take_succ_cons List.take_zero List.length_cons List.length_nil List.getElem?_cons_zero List.getElem?_cons_succ Option.map_some Option.map_none List.head?_cons
attribute [local go_sem] nev isImm List.contains_cons List.contains_nil Bool.or_false Bool.or_true D.flat D.cellsOf D.isCell Bool.or_self Bool.and_self szOf nstore Store.get Store.upd putCells nk_cons not_or FZ frzE_mk frzL inL frz Store.del or_false boxCells List.headD_cons List.headD_nil List.nil_append List.append_nil List.cons_append List.drop_nil false_and and_false false_or true_or or_true Bool.false_and Bool.true_and Bool.false_or Bool.true_or Bool.and_false setPs lim_eq chunk zrep pls_eq plsF fillD resAll shop sbop bbop decide_true decide_false Bool.not_true Bool.not_false eq_self
attribute [local go_sem] tf0 tf1 tf2 tf3 tf4 tf5 tf6 tf7 tf8 tf9 tf10 tf11 tf12 tf13 tf14 tf15 tf16 tf17 tf18 tf19 tf20 tf21 tf22 tf23 tf24 tf25 tf26 tf27 tf28 tf29 tf30 tf31 tf32 tf33 tf34 tf35 tf36 tf37 tf38 tf39 tf40 tf41 tf42 tf43 tf44 tf45 tf46 tf47 tf48 tf49 tf50 tf51 tf52 tf53 tf54 tf55 tf56 tf57 tf58 tf59 tf60 tf61 tf62 tf63 tf64 tf65 tf66 tf67 tf68 tf69 tf70 tf71 tf72 tf73 tf74 tf75 tf76 tf77 tf78 tf79 tf80 tf81 tf82 tf83 tf84 tf85 tf86 tf87 tf88 tf89 tf90 tf91 tf92 tf93 tf94 tf95 tf96 tf97 tf98 tf99 tf100 tf101 tf102 tf103 tf104 tf105 tf106 tf107 tf108 tf109 tf110 tf111 tf112 tf113 tf114 tf115 tf116 tf117 tf118 tf119 tf120 tf121 tf122 tf123 tf124 tf125 tf126 tf127 tf128 tf129 tf130 tf131 tf132 tf133 tf134 tf135 tf136 tf137 tf138 tf139 tf140 tf141 tf142 tf143 tf144 tf145 tf146 tf147 tf148 tf149 tf150 tf151 tf152 tf153 tf154 tf155 tf156 tf157 tf158 tf159 tf160 tf161 tf162 tf163 tf164 tf165 tf166 tf167 tf168 tf169 tf170 tf171 tf172 tf173 tf174 tf175 tf176 tf177 tf178 tf179 tf180 tf181 tf182 tf183 tf184 tf185 tf186 tf187 tf188 tf189 tf190 tf191 tf192 tf193 tf194 tf195 tf196 tf197 tf198 tf199 tf200 tf201 tf202 tf203
attribute [local go_sem] List.length_map rowAt_g rowAt_k grow krow rowAt_i irow prow rowAt_b brow
theorem tv_w (s : List UInt8) : PCall Try.prog (.func 25) [.str s] (.bool (tv s)) := by
  refine PCall.ok fun hok => ?_
  simp only [okAll, D.ok, okRows, and_true, true_and, lim_eq, inR_i64', inR_i32', inR_u8', inR_u16', inR_u64'] at hok
  refine PCall.le ?_
  refine fn_ Try.func25 (by rfl) (by rfl) (rs := [.tmp 2]) (by rfl) (by simp [Try.f25]) ?_
  refine sq ?_
  refine rg [0] [] [] (by kernel_rfl) ?_; intro κ ξ hκ hξ
  try simp (config := { decide := true }) only [go_sem, Nat.reduceMul, Nat.reduceAdd]
  repeat with_reducible refine And.intro (by first | assumption | omega | (simp; done) | (simp; omega) | (intro hg; simp (config := { decide := true }) only [go_sem, hg]; done) | (intro hg; simp (config := { decide := true }) only [go_sem, hg]; omega)) ?_
  refine hκ _ _ ?_; clear hκ hξ ξ κ
  refine sq ?_
  refine sq ?_
  refine rg [0, 6] [] [] (by kernel_rfl) ?_; intro κ ξ hκ hξ
  try simp (config := { decide := true }) only [go_sem, Nat.reduceMul, Nat.reduceAdd]
  repeat with_reducible refine And.intro (by first | assumption | omega | (simp; done) | (simp; omega) | (intro hg; simp (config := { decide := true }) only [go_sem, hg]; done) | (intro hg; simp (config := { decide := true }) only [go_sem, hg]; omega)) ?_
  intro b6 hb6
  try simp (config := { decide := true }) only [go_sem, Nat.reduceMul, Nat.reduceAdd, hb6]
  repeat with_reducible refine And.intro (by first | assumption | omega | (simp; done) | (simp; omega) | (intro hg; simp (config := { decide := true }) only [go_sem, hg]; done) | (intro hg; simp (config := { decide := true }) only [go_sem, hg]; omega)) ?_
  refine hκ _ _ ?_; clear hκ hξ ξ κ
  refine bl ?_
  refine lp (α := Nat) (fun p => mk [(0, .str s), (6, .ptr b6 0)]) (fun p => [(b6, .siter s p)]) (fun p => p ≤ s.length ∧ ∀ j, j < p → cls (sat s j) ≠ 0) (fun p => s.length - p) 0 ⟨⟨by omega, by intro j hj; omega⟩, EnvLe.of_eq rfl, .refl _⟩ ?_
  rintro p ⟨hi, hj⟩
  refine sq ?_
  refine rg [0, 6, 7, 8] [] [] (by kernel_rfl) ?_; intro κ ξ hκ hξ
  try simp (config := { decide := true }) only [go_sem, Nat.reduceMul, Nat.reduceAdd, hb6]
  repeat with_reducible refine And.intro (by first | assumption | omega | (simp; done) | (simp; omega) | (intro hg; simp (config := { decide := true }) only [go_sem, hg]; done) | (intro hg; simp (config := { decide := true }) only [go_sem, hg]; omega)) ?_
  refine ⟨?_, ?_⟩ <;> intro hp7
  · refine hκ _ _ ?_; clear hκ hξ ξ κ
    refine sq ?_
    refine cdt (by rfl) ?_
    refine sk ?_
    refine bl ?_
    refine sq ?_
    refine rg [0, 4, 6] [] [] (by kernel_rfl) ?_; intro κ ξ hκ hξ
    try simp (config := { decide := true }) only [go_sem, Nat.reduceMul, Nat.reduceAdd, hb6, hp7]
    repeat with_reducible refine And.intro (by first | assumption | omega | (simp; done) | (simp; omega) | (intro hg; simp (config := { decide := true }) only [go_sem, hg]; done) | (intro hg; simp (config := { decide := true }) only [go_sem, hg]; omega)) ?_
    have hdec : sat s p < 128 → Utf8.decode ⟨s.toArray⟩ p = ((s.getD p 0).toNat, 1) := dec_ascii hp7
    have hhigh : 128 ≤ sat s p → 128 ≤ (Utf8.decode ⟨s.toArray⟩ p).1 := dec_high hp7
    have hsr := sat_range s p
    have hrn : ((Utf8.decode ⟨s.toArray⟩ p).1 : Int) ≤ 2147483647 := by have := decode_le ⟨s.toArray⟩ p; omega
    refine hκ _ _ ?_; clear hκ hξ ξ κ
    refine sq ?_
    refine rg [0, 6, 17] [] [(2, 12)] (by kernel_rfl) ?_; intro κ ξ hκ hξ
    try simp (config := { decide := true }) only [go_sem, Nat.reduceMul, Nat.reduceAdd, hb6, hp7]
    repeat with_reducible refine And.intro (by first | assumption | omega | (simp; done) | (simp; omega) | (intro hg; simp (config := { decide := true }) only [go_sem, hg]; done) | (intro hg; simp (config := { decide := true }) only [go_sem, hg]; omega)) ?_
    refine vo_gc ?_; simp (config := { decide := true }) only [go_sem, hb6, hp7]; refine gcallF (fun hg => ⟨by first | rfl | (simp (config := { decide := true }) only [go_sem, hg, hb6, hp7]; done) | exact hg | simpa using hg, class_w _⟩) ?_
    try simp (config := { decide := true }) only [go_sem, Nat.reduceMul, Nat.reduceAdd, hb6, hp7]
    repeat with_reducible refine And.intro (by first | assumption | omega | (simp; done) | (simp; omega) | (intro hg; simp (config := { decide := true }) only [go_sem, hg]; done) | (intro hg; simp (config := { decide := true }) only [go_sem, hg]; omega)) ?_
    refine hκ _ _ ?_; clear hκ hξ ξ κ
    refine cd (by rfl) (fun c0 => ?_) (fun c0 => ?_)
    · try simp only [go_sem] at c0
      refine sq ?_
      refine rg [2] [] [] (by kernel_rfl) ?_; intro κ ξ hκ hξ
      try simp (config := { decide := true }) only [go_sem, Nat.reduceMul, Nat.reduceAdd, hb6, hp7, c0]
      repeat with_reducible refine And.intro (by first | assumption | omega | (simp; done) | (simp; omega) | (intro hg; simp (config := { decide := true }) only [go_sem, hg]; done) | (intro hg; simp (config := { decide := true }) only [go_sem, hg]; omega)) ?_
      refine hκ _ _ ?_; clear hκ hξ ξ κ
      refine rt ?_
      refine retE ?_
      simp (config := { decide := true }) only [go_sem, resD, resV, hb6, hp7, c0]
      rw [tv_false hp7 ?_]
      rcases Int.lt_or_le (sat s p) 128 with ha | ha
      · rw [hdec ha] at c0
        rw [wu8 (by unfold sat at ha; omega)] at c0
        rcases c0 with c0 | c0
        · exact Classical.byContradiction fun hh => by have := cls_bounds hh; unfold sat at this; omega
        · exact c0
      · exact Classical.byContradiction fun hh => by have := cls_bounds hh; omega
    · try simp only [go_sem] at c0
      refine sk ?_
      have ha : sat s p < 128 := by rcases c0 with ⟨c0, _⟩; omega
      rw [hdec ha]
      have hc : cls (sat s p) ≠ 0 := by
        rcases c0 with ⟨_, c0⟩
        rw [hdec ha, wu8 (by unfold sat at ha; omega)] at c0
        exact c0
      refine ⟨p + 1, ⟨⟨by omega, ?_⟩, by omega⟩, EnvLe.of_l ⟨rfl, rfl, trivial⟩, .refl _⟩
      intro j h
      rcases Nat.lt_succ_iff_lt_or_eq.1 h with h | rfl
      · exact hj j h
      · exact hc
  · refine hκ _ _ ?_; clear hκ hξ ξ κ
    refine sq ?_
    refine cdf (by rfl) ?_
    refine ex ?_
    refine sq ?_
    refine rg [2] [] [] (by kernel_rfl) ?_; intro κ ξ hκ hξ
    try simp (config := { decide := true }) only [go_sem, Nat.reduceMul, Nat.reduceAdd, hb6, hp7]
    repeat with_reducible refine And.intro (by first | assumption | omega | (simp; done) | (simp; omega) | (intro hg; simp (config := { decide := true }) only [go_sem, hg]; done) | (intro hg; simp (config := { decide := true }) only [go_sem, hg]; omega)) ?_
    refine hκ _ _ ?_; clear hκ hξ ξ κ
    refine rt ?_
    refine retE ?_
    simp (config := { decide := true }) only [go_sem, resD, resV, hb6, hp7]
    rw [tv_all fun j h => hj j (by omega)]
    congr 1
    rw [decide_eq_decide]
    omega

theorem shown_w (s : List UInt8) (hs : s.length ≤ 1000000) : PCall Try.prog (.func 20) [.str s] (.sl 1 ((shown s).map brow) .no) := by
  refine PCall.ok fun hok => ?_
  simp only [okAll, D.ok, okRows, and_true, true_and, lim_eq, inR_i64', inR_i32', inR_u8', inR_u16', inR_u64'] at hok
  refine PCall.le ?_
  refine fn_ Try.func20 (by rfl) (by rfl) (rs := [.tmp 2]) (by rfl) (by simp [Try.f20]) ?_
  refine sq ?_
  refine rg [0] [] [] (by kernel_rfl) ?_; intro κ ξ hκ hξ
  try simp (config := { decide := true }) only [go_sem, Nat.reduceMul, Nat.reduceAdd]
  repeat with_reducible refine And.intro (by first | assumption | omega | (simp; done) | (simp; omega) | (intro hg; simp (config := { decide := true }) only [go_sem, hg]; done) | (intro hg; simp (config := { decide := true }) only [go_sem, hg]; omega)) ?_
  refine hκ _ _ ?_; clear hκ hξ ξ κ
  refine sq ?_
  refine rg [0, 3] [] [] (by kernel_rfl) ?_; intro κ ξ hκ hξ
  try simp (config := { decide := true }) only [go_sem, Nat.reduceMul, Nat.reduceAdd]
  repeat with_reducible refine And.intro (by first | assumption | omega | (simp; done) | (simp; omega) | (intro hg; simp (config := { decide := true }) only [go_sem, hg]; done) | (intro hg; simp (config := { decide := true }) only [go_sem, hg]; omega)) ?_
  refine hκ _ _ ?_; clear hκ hξ ξ κ
  refine sq ?_
  refine sq ?_
  refine rg [0, 3, 4] [] [] (by kernel_rfl) ?_; intro κ ξ hκ hξ
  try simp (config := { decide := true }) only [go_sem, Nat.reduceMul, Nat.reduceAdd]
  repeat with_reducible refine And.intro (by first | assumption | omega | (simp; done) | (simp; omega) | (intro hg; simp (config := { decide := true }) only [go_sem, hg]; done) | (intro hg; simp (config := { decide := true }) only [go_sem, hg]; omega)) ?_
  refine hκ _ _ ?_; clear hκ hξ ξ κ
  refine bl ?_
  refine lp (α := Nat × Option (Nat × Nat)) (fun x => mk [(0, .str s), (3, apD 1 ((shown (s.take x.1)).map brow) x.2), (4, .int .i64 x.1)]) (fun x => apS 1 (shown (s.take x.1)).length x.2) (fun x => x.1 ≤ s.length ∧ apOK ((shown (s.take x.1)).map brow) x.2) (fun x => s.length - x.1) (0, none) ⟨⟨by omega, fun _ => rfl⟩, EnvLe.of_eq rfl, .refl _⟩ ?_
  rintro ⟨i, o⟩ ⟨hi, ho⟩
  simp only at hi ho
  have hsl := shown_len (s.take i)
  have htl := List.length_take_le i s
  refine sq ?_
  refine sq ?_
  refine rg [0, 3, 4, 8] [] [] (by kernel_rfl) ?_; intro κ ξ hκ hξ
  try simp (config := { decide := true }) only [go_sem, Nat.reduceMul, Nat.reduceAdd]
  repeat with_reducible refine And.intro (by first | assumption | omega | (simp; done) | (simp; omega) | (intro hg; simp (config := { decide := true }) only [go_sem, hg]; done) | (intro hg; simp (config := { decide := true }) only [go_sem, hg]; omega)) ?_
  refine hκ _ _ ?_; clear hκ hξ ξ κ
  refine cd (by rfl) (fun c0 => ?_) (fun c0 => ?_)
  · try simp only [go_sem] at c0
    refine sk ?_
    refine sq ?_
    refine bl ?_
    refine sq ?_
    refine rg [0, 3, 4, 14] [] [] (by kernel_rfl) ?_; intro κ ξ hκ hξ
    try simp (config := { decide := true }) only [go_sem, Nat.reduceMul, Nat.reduceAdd, c0]
    repeat with_reducible refine And.intro (by first | assumption | omega | (simp; done) | (simp; omega) | (intro hg; simp (config := { decide := true }) only [go_sem, hg]; done) | (intro hg; simp (config := { decide := true }) only [go_sem, hg]; omega)) ?_
    refine hκ _ _ ?_; clear hκ hξ ξ κ
    refine cd (by rfl) (fun c1 => ?_) (fun c1 => ?_)
    · try simp only [go_sem] at c1
      refine rg [0, 3, 4] [] [] (by kernel_rfl) ?_; intro κ ξ hκ hξ
      try simp (config := { decide := true }) only [go_sem, Nat.reduceMul, Nat.reduceAdd, c0, c1]
      repeat with_reducible refine And.intro (by first | assumption | omega | (simp; done) | (simp; omega) | (intro hg; simp (config := { decide := true }) only [go_sem, hg]; done) | (intro hg; simp (config := { decide := true }) only [go_sem, hg]; omega)) ?_
      refine napp_grow0 (by first | assumption | omega | (simp; done) | (simp; omega) | (intro hg; simp (config := { decide := true }) only [go_sem, hg]; done) | (intro hg; simp (config := { decide := true }) only [go_sem, hg]; omega)) (by simp) rfl rfl (by simp (config := { decide := true }) only [go_sem, Option.isSome_some]) tf117 tf118 tf51 (by refine ⟨⟨rfl, by decide, by decide⟩, by simp (config := { decide := true }) only [go_sem], by simp, ?_⟩; simp [capB]; omega) ?_; intro b20 c20
      try simp (config := { decide := true }) only [go_sem, Nat.reduceMul, Nat.reduceAdd, c0, c1]
      repeat with_reducible refine And.intro (by first | assumption | omega | (simp; done) | (simp; omega) | (intro hg; simp (config := { decide := true }) only [go_sem, hg]; done) | (intro hg; simp (config := { decide := true }) only [go_sem, hg]; omega)) ?_
      refine hκ _ _ ?_; clear hκ hξ ξ κ
      refine rg [0, 3, 4] [] [] (by kernel_rfl) ?_; intro κ ξ hκ hξ
      try simp (config := { decide := true }) only [go_sem, Nat.reduceMul, Nat.reduceAdd, c0, c1]
      repeat with_reducible refine And.intro (by first | assumption | omega | (simp; done) | (simp; omega) | (intro hg; simp (config := { decide := true }) only [go_sem, hg]; done) | (intro hg; simp (config := { decide := true }) only [go_sem, hg]; omega)) ?_
      refine hκ _ _ ?_; clear hκ hξ ξ κ
      have c1' : ¬ sat s i = 126 := c1
      have e := shown_take (s := s) (i := i) (by omega)
      rw [if_neg c1'] at e
      refine ⟨(i + 1, some (b20, c20)), ⟨⟨by omega, fun h => by cases h⟩, by omega⟩, EnvLe.of_eq ?_, ?_⟩
      · rw [w64 (by omega), e, List.map_append]; rfl
      · rw [e, List.length_append]; exact .refl _
    · try simp only [go_sem] at c1
      refine sk ?_
      refine rg [0, 3, 4] [] [] (by kernel_rfl) ?_; intro κ ξ hκ hξ
      try simp (config := { decide := true }) only [go_sem, Nat.reduceMul, Nat.reduceAdd, c0, c1]
      repeat with_reducible refine And.intro (by first | assumption | omega | (simp; done) | (simp; omega) | (intro hg; simp (config := { decide := true }) only [go_sem, hg]; done) | (intro hg; simp (config := { decide := true }) only [go_sem, hg]; omega)) ?_
      refine hκ _ _ ?_; clear hκ hξ ξ κ
      have c1' : sat s i = 126 := c1
      have e := shown_take (s := s) (i := i) (by omega)
      rw [if_pos c1'] at e
      refine ⟨(i + 1, o), ⟨⟨by omega, fun h => by rw [e]; exact ho h⟩, by omega⟩, EnvLe.of_eq ?_, ?_⟩
      · rw [w64 (by omega), e]; rfl
      · rw [e]; exact .refl _
  · try simp only [go_sem] at c0
    refine ex ?_
    refine sq ?_
    refine rg [2] [] [] (by kernel_rfl) ?_; intro κ ξ hκ hξ
    try simp (config := { decide := true }) only [go_sem, Nat.reduceMul, Nat.reduceAdd, c0]
    repeat with_reducible refine And.intro (by first | assumption | omega | (simp; done) | (simp; omega) | (intro hg; simp (config := { decide := true }) only [go_sem, hg]; done) | (intro hg; simp (config := { decide := true }) only [go_sem, hg]; omega)) ?_
    refine hκ _ _ ?_; clear hκ hξ ξ κ
    refine rt ?_
    refine retL ?_
    simp (config := { decide := true }) only [go_sem, resD, resV, c0]
    have e : s.take i = s := List.take_of_length_le (by omega)
    rw [e] at ho ⊢
    exact apD_le 1 ho

theorem few_w (gs : List Gl) (ks : List Kn) (tg tk : Tok) : PCall Try.prog (.func 9) [.ag [.sl 2 (gs.map grow) tg, .sl 3 (ks.map krow) tk]] (.bool (decide (gs.length ≤ 100 ∧ ks.length ≤ 210))) := by
  refine PCall.le ?_
  refine fn_ Try.func9 (by rfl) (by rfl) (rs := [.tmp 2]) (by rfl) (by simp [Try.f9]) ?_
  refine sq ?_
  refine rg [1] [1] [] (by kernel_rfl) ?_; intro κ ξ hκ hξ
  try simp (config := { decide := true }) only [go_sem, Nat.reduceMul, Nat.reduceAdd]
  repeat with_reducible refine And.intro (by first | assumption | omega | (simp; done) | (simp; omega) | (intro hg; simp (config := { decide := true }) only [go_sem, hg]; done) | (intro hg; simp (config := { decide := true }) only [go_sem, hg]; omega)) ?_
  refine hκ _ _ ?_; clear hκ hξ ξ κ
  refine sq ?_
  refine rg [2] [] [(4, 7)] (by kernel_rfl) ?_; intro κ ξ hκ hξ
  try simp (config := { decide := true }) only [go_sem, Nat.reduceMul, Nat.reduceAdd]
  repeat with_reducible refine And.intro (by first | assumption | omega | (simp; done) | (simp; omega) | (intro hg; simp (config := { decide := true }) only [go_sem, hg]; done) | (intro hg; simp (config := { decide := true }) only [go_sem, hg]; omega)) ?_
  refine hκ _ _ ?_; clear hκ hξ ξ κ
  refine rt ?_
  refine retE ?_
  simp (config := { decide := true }) only [go_sem, resD, resV]
  all_goals congr 1
  all_goals rw [Bool.eq_iff_iff]
  all_goals simp
  all_goals omega

theorem count_w (s : List UInt8) (b : Int) : PCall Try.prog (.func 23) [.str s, .int .u8 b] (.int .i64 (cnt s b)) := by
  refine PCall.ok fun hok => ?_
  simp only [okAll, D.ok, okRows, and_true, true_and, lim_eq, inR_i64', inR_i32', inR_u8', inR_u16', inR_u64'] at hok
  obtain ⟨hs, hb⟩ := hok
  refine PCall.le ?_
  refine fn_ Try.func23 (by rfl) (by rfl) (rs := [.tmp 4]) (by rfl) (by simp [Try.f23]) ?_
  refine sq ?_
  refine rg [0, 1] [] [] (by kernel_rfl) ?_; intro κ ξ hκ hξ
  try simp (config := { decide := true }) only [go_sem, Nat.reduceMul, Nat.reduceAdd]
  repeat with_reducible refine And.intro (by first | assumption | omega | (simp; done) | (simp; omega) | (intro hg; simp (config := { decide := true }) only [go_sem, hg]; done) | (intro hg; simp (config := { decide := true }) only [go_sem, hg]; omega)) ?_
  refine hκ _ _ ?_; clear hκ hξ ξ κ
  refine sq ?_
  refine rg [0, 1, 5] [] [] (by kernel_rfl) ?_; intro κ ξ hκ hξ
  try simp (config := { decide := true }) only [go_sem, Nat.reduceMul, Nat.reduceAdd]
  repeat with_reducible refine And.intro (by first | assumption | omega | (simp; done) | (simp; omega) | (intro hg; simp (config := { decide := true }) only [go_sem, hg]; done) | (intro hg; simp (config := { decide := true }) only [go_sem, hg]; omega)) ?_
  refine hκ _ _ ?_; clear hκ hξ ξ κ
  refine sq ?_
  refine sq ?_
  refine rg [0, 1, 5, 6] [] [] (by kernel_rfl) ?_; intro κ ξ hκ hξ
  try simp (config := { decide := true }) only [go_sem, Nat.reduceMul, Nat.reduceAdd]
  repeat with_reducible refine And.intro (by first | assumption | omega | (simp; done) | (simp; omega) | (intro hg; simp (config := { decide := true }) only [go_sem, hg]; done) | (intro hg; simp (config := { decide := true }) only [go_sem, hg]; omega)) ?_
  refine hκ _ _ ?_; clear hκ hξ ξ κ
  refine bl ?_
  refine lp (α := Nat) (fun i => mk [(0, .str s), (1, .int .u8 b), (5, .int .i64 (cnt (s.take i) b)), (6, .int .i64 i)]) (fun _ => []) (fun i => i ≤ s.length) (fun i => s.length - i) 0 ⟨by omega, EnvLe.of_eq rfl, .refl _⟩ ?_
  rintro i hi
  have hcl := cnt_le (s.take i) b
  have htl := List.length_take_le i s
  refine sq ?_
  refine sq ?_
  refine rg [0, 1, 5, 6, 10] [] [] (by kernel_rfl) ?_; intro κ ξ hκ hξ
  try simp (config := { decide := true }) only [go_sem, Nat.reduceMul, Nat.reduceAdd]
  repeat with_reducible refine And.intro (by first | assumption | omega | (simp; done) | (simp; omega) | (intro hg; simp (config := { decide := true }) only [go_sem, hg]; done) | (intro hg; simp (config := { decide := true }) only [go_sem, hg]; omega)) ?_
  refine hκ _ _ ?_; clear hκ hξ ξ κ
  refine cd (by rfl) (fun c0 => ?_) (fun c0 => ?_)
  · try simp only [go_sem] at c0
    refine sk ?_
    refine sq ?_
    refine bl ?_
    refine sq ?_
    refine rg [0, 1, 5, 6, 17] [] [] (by kernel_rfl) ?_; intro κ ξ hκ hξ
    try simp (config := { decide := true }) only [go_sem, Nat.reduceMul, Nat.reduceAdd, c0]
    repeat with_reducible refine And.intro (by first | assumption | omega | (simp; done) | (simp; omega) | (intro hg; simp (config := { decide := true }) only [go_sem, hg]; done) | (intro hg; simp (config := { decide := true }) only [go_sem, hg]; omega)) ?_
    refine hκ _ _ ?_; clear hκ hξ ξ κ
    refine cd (by rfl) (fun c1 => ?_) (fun c1 => ?_)
    · try simp only [go_sem] at c1
      refine rg [0, 1, 5, 6] [] [] (by kernel_rfl) ?_; intro κ ξ hκ hξ
      try simp (config := { decide := true }) only [go_sem, Nat.reduceMul, Nat.reduceAdd, c0, c1]
      repeat with_reducible refine And.intro (by first | assumption | omega | (simp; done) | (simp; omega) | (intro hg; simp (config := { decide := true }) only [go_sem, hg]; done) | (intro hg; simp (config := { decide := true }) only [go_sem, hg]; omega)) ?_
      refine hκ _ _ ?_; clear hκ hξ ξ κ
      refine rg [0, 1, 5, 6] [] [] (by kernel_rfl) ?_; intro κ ξ hκ hξ
      try simp (config := { decide := true }) only [go_sem, Nat.reduceMul, Nat.reduceAdd, c0, c1]
      repeat with_reducible refine And.intro (by first | assumption | omega | (simp; done) | (simp; omega) | (intro hg; simp (config := { decide := true }) only [go_sem, hg]; done) | (intro hg; simp (config := { decide := true }) only [go_sem, hg]; omega)) ?_
      refine hκ _ _ ?_; clear hκ hξ ξ κ
      have c1' : sat s i = b := c1
      have e := cnt_take (s := s) (i := i) (b := b) (by omega)
      rw [if_pos c1'] at e
      refine ⟨i + 1, ⟨by omega, by omega⟩, EnvLe.of_eq ?_, List.nil_sublist _⟩
      rw [e, w64 (n := (i : Int) + 1) (by omega), w64 (by omega)]; rfl
    · try simp only [go_sem] at c1
      refine sk ?_
      refine rg [0, 1, 5, 6] [] [] (by kernel_rfl) ?_; intro κ ξ hκ hξ
      try simp (config := { decide := true }) only [go_sem, Nat.reduceMul, Nat.reduceAdd, c0, c1]
      repeat with_reducible refine And.intro (by first | assumption | omega | (simp; done) | (simp; omega) | (intro hg; simp (config := { decide := true }) only [go_sem, hg]; done) | (intro hg; simp (config := { decide := true }) only [go_sem, hg]; omega)) ?_
      refine hκ _ _ ?_; clear hκ hξ ξ κ
      have c1' : ¬ sat s i = b := c1
      have e := cnt_take (s := s) (i := i) (b := b) (by omega)
      rw [if_neg c1'] at e
      refine ⟨i + 1, ⟨by omega, by omega⟩, EnvLe.of_eq ?_, List.nil_sublist _⟩
      rw [e, w64 (n := (i : Int) + 1) (by omega)]; rfl
  · try simp only [go_sem] at c0
    refine ex ?_
    refine sq ?_
    refine rg [4] [] [] (by kernel_rfl) ?_; intro κ ξ hκ hξ
    try simp (config := { decide := true }) only [go_sem, Nat.reduceMul, Nat.reduceAdd, c0]
    repeat with_reducible refine And.intro (by first | assumption | omega | (simp; done) | (simp; omega) | (intro hg; simp (config := { decide := true }) only [go_sem, hg]; done) | (intro hg; simp (config := { decide := true }) only [go_sem, hg]; omega)) ?_
    refine hκ _ _ ?_; clear hκ hξ ξ κ
    refine rt ?_
    refine retE ?_
    simp (config := { decide := true }) only [go_sem, resD, resV, c0]
    all_goals rw [List.take_of_length_le (by omega)]

theorem fok_w (gs : List Gl) (ks : List Kn) (tg tk : Tok) : PCall Try.prog (.func 13) [.ag [.sl 2 (gs.map grow) tg, .sl 3 (ks.map krow) tk]] (.bool (fok gs ks)) := by
  refine PCall.ok fun hok => ?_
  simp only [okAll, D.ok, okRows, and_true, true_and, lim_eq, inR_i64', inR_i32', inR_u8', inR_u16', inR_u64'] at hok
  obtain ⟨⟨hg, hgr⟩, hk, hkr⟩ := hok; rw [List.length_map] at hg hk
  refine PCall.le ?_
  refine fn_ Try.func13 (by rfl) (by rfl) (rs := [.tmp 2]) (by rfl) (by simp [Try.f13]) ?_
  refine sq ?_
  refine rg [1] [1] [] (by kernel_rfl) ?_; intro κ ξ hκ hξ
  try simp (config := { decide := true }) only [go_sem, Nat.reduceMul, Nat.reduceAdd]
  repeat with_reducible refine And.intro (by first | assumption | omega | (simp; done) | (simp; omega) | (intro hg; simp (config := { decide := true }) only [go_sem, hg]; done) | (intro hg; simp (config := { decide := true }) only [go_sem, hg]; omega)) ?_
  refine hκ _ _ ?_; clear hκ hξ ξ κ
  refine sq ?_
  refine sq ?_
  refine rg [1, 20] [] [(4, 15)] (by kernel_rfl) ?_; intro κ ξ hκ hξ
  try simp (config := { decide := true }) only [go_sem, Nat.reduceMul, Nat.reduceAdd]
  repeat with_reducible refine And.intro (by first | assumption | omega | (simp; done) | (simp; omega) | (intro hg; simp (config := { decide := true }) only [go_sem, hg]; done) | (intro hg; simp (config := { decide := true }) only [go_sem, hg]; omega)) ?_
  refine hκ _ _ ?_; clear hκ hξ ξ κ
  refine cd (by rfl) (fun c0 => ?_) (fun c0 => ?_)
  · try simp only [go_sem] at c0
    refine sq ?_
    refine rg [2] [] [] (by kernel_rfl) ?_; intro κ ξ hκ hξ
    try simp (config := { decide := true }) only [go_sem, Nat.reduceMul, Nat.reduceAdd, c0]
    repeat with_reducible refine And.intro (by first | assumption | omega | (simp; done) | (simp; omega) | (intro hg; simp (config := { decide := true }) only [go_sem, hg]; done) | (intro hg; simp (config := { decide := true }) only [go_sem, hg]; omega)) ?_
    refine hκ _ _ ?_; clear hκ hξ ξ κ
    refine rt ?_
    refine retE ?_
    simp (config := { decide := true }) only [go_sem, resD, resV, c0]
    all_goals rw [fok_false.2 ?_]
    rintro ⟨_, _⟩
    omega
  · try simp only [go_sem] at c0
    refine sk ?_
    refine sq ?_
    refine sq ?_
    refine rg [1, 22, 23, 24] [] [] (by kernel_rfl) ?_; intro κ ξ hκ hξ
    try simp (config := { decide := true }) only [go_sem, Nat.reduceMul, Nat.reduceAdd, c0]
    repeat with_reducible refine And.intro (by first | assumption | omega | (simp; done) | (simp; omega) | (intro hg; simp (config := { decide := true }) only [go_sem, hg]; done) | (intro hg; simp (config := { decide := true }) only [go_sem, hg]; omega)) ?_
    refine hκ _ _ ?_; clear hκ hξ ξ κ
    refine bl ?_
    refine lp (α := Nat) (fun i => mk [(1, .el [.sl 2 (gs.map grow) tg, .sl 3 (ks.map krow) tk]), (22, .sl 2 (gs.map grow) tg), (23, .int .i64 gs.length), (24, .int .i64 i)]) (fun _ => []) (fun i => i ≤ gs.length ∧ ∀ j, j < i → gok gs j) (fun i => gs.length - i) 0 ⟨⟨by omega, by intro j hj; omega⟩, EnvLe.of_eq rfl, .refl _⟩ ?_
    rintro i ⟨hi, hj⟩
    refine sq ?_
    refine rg [1, 22, 23, 24, 25] [] [] (by kernel_rfl) ?_; intro κ ξ hκ hξ
    try simp (config := { decide := true }) only [go_sem, Nat.reduceMul, Nat.reduceAdd, c0]
    repeat with_reducible refine And.intro (by first | assumption | omega | (simp; done) | (simp; omega) | (intro hg; simp (config := { decide := true }) only [go_sem, hg]; done) | (intro hg; simp (config := { decide := true }) only [go_sem, hg]; omega)) ?_
    refine hκ _ _ ?_; clear hκ hξ ξ κ
    refine sq ?_
    refine cd (by rfl) (fun c1 => ?_) (fun c1 => ?_)
    · try simp only [go_sem] at c1
      refine sk ?_
      refine sq ?_
      refine bl ?_
      refine sq ?_
      refine rgz [(4, [])] [1, 3, 4, 22, 23, 24] [] [] (by kernel_rfl) ?_; intro κ ξ hκ hξ
      try simp (config := { decide := true }) only [go_sem, Nat.reduceMul, Nat.reduceAdd, c0, c1]
      repeat with_reducible refine And.intro (by first | assumption | omega | (simp; done) | (simp; omega) | (intro hg; simp (config := { decide := true }) only [go_sem, hg]; done) | (intro hg; simp (config := { decide := true }) only [go_sem, hg]; omega)) ?_
      intro b4 hb4
      try simp (config := { decide := true }) only [go_sem, Nat.reduceMul, Nat.reduceAdd, c0, c1, hb4]
      repeat with_reducible refine And.intro (by first | assumption | omega | (simp; done) | (simp; omega) | (intro hg; simp (config := { decide := true }) only [go_sem, hg]; done) | (intro hg; simp (config := { decide := true }) only [go_sem, hg]; omega)) ?_
      refine hκ _ _ ?_; clear hκ hξ ξ κ
      refine sq ?_
      rcases i with _ | k
      · have hi0 : ((0 : Nat) : Int) = 0 := rfl
        refine rgd [1, 22, 23, 24, 62] [] [] [(3, 32), (8, 37), (13, 42), (18, 47), (21, 50)] (by kernel_rfl) (by kernel_rfl) ?_; intro κ ξ hκ hξ
        try simp (config := { decide := true }) only [go_sem, Nat.reduceMul, Nat.reduceAdd, c0, c1, hb4, hi0]
        repeat with_reducible refine And.intro (by first | assumption | omega | (simp; done) | (simp; omega) | (intro hg; simp (config := { decide := true }) only [go_sem, hg]; done) | (intro hg; simp (config := { decide := true }) only [go_sem, hg]; omega)) ?_
        refine hκ _ _ ?_; clear hκ hξ ξ κ
        refine cd (by rfl) (fun c2 => ?_) (fun c2 => ?_)
        · try simp only [go_sem] at c2
          refine sq ?_
          refine rg [2] [] [] (by kernel_rfl) ?_; intro κ ξ hκ hξ
          try simp (config := { decide := true }) only [go_sem, Nat.reduceMul, Nat.reduceAdd, c0, c1, hb4, hi0, c2]
          repeat with_reducible refine And.intro (by first | assumption | omega | (simp; done) | (simp; omega) | (intro hg; simp (config := { decide := true }) only [go_sem, hg]; done) | (intro hg; simp (config := { decide := true }) only [go_sem, hg]; omega)) ?_
          refine hκ _ _ ?_; clear hκ hξ ξ κ
          refine rt ?_
          refine retE ?_
          simp (config := { decide := true }) only [go_sem, resD, resV, c0, c1, hb4, hi0, c2]
          all_goals rw [fok_false.2 ?_]
          rintro ⟨_, hh, _⟩
          have := hh 0 (by omega)
          simp only [gok, Nat.add_sub_cancel] at this
          omega
        · try simp only [go_sem] at c2
          refine sk ?_
          refine rg [1, 22, 23, 24] [] [] (by kernel_rfl) ?_; intro κ ξ hκ hξ
          try simp (config := { decide := true }) only [go_sem, Nat.reduceMul, Nat.reduceAdd, c0, c1, hb4, hi0, c2]
          repeat with_reducible refine And.intro (by first | assumption | omega | (simp; done) | (simp; omega) | (intro hg; simp (config := { decide := true }) only [go_sem, hg]; done) | (intro hg; simp (config := { decide := true }) only [go_sem, hg]; omega)) ?_
          refine hκ _ _ ?_; clear hκ hξ ξ κ
          refine ⟨0 + 1, ⟨⟨by omega, ?_⟩, by omega⟩, EnvLe.of_eq (by rw [w64 (by omega)]; rfl), List.nil_sublist _⟩
          intro j h
          rcases Nat.lt_succ_iff_lt_or_eq.1 h with h | rfl
          · exact hj j h
          · simp only [gok, Nat.add_sub_cancel]
            exact ⟨by omega, by omega, by omega, by omega, fun h0 => by omega⟩
      · have hk1 : ((k + 1 : Nat) : Int) = (k : Int) + 1 := rfl
        have hk0 : (0 : Int) < (k : Int) + 1 := by omega
        have hkw : IntKind.wrap .i64 ((k : Int) + 1 - 1) = k := by rw [w64 (by omega)]; omega
        have hkl : (k : Int) < gs.length := by omega
        have hkl2 : (k : Int) + 1 < gs.length := by omega
        refine rgd [1, 22, 23, 24, 62] [] [] [(3, 32), (8, 37), (13, 42), (18, 47), (21, 50)] (by kernel_rfl) (by kernel_rfl) ?_; intro κ ξ hκ hξ
        try simp (config := { decide := true }) only [go_sem, Nat.reduceMul, Nat.reduceAdd, c0, c1, hb4, hk1, hk0, hkw, hkl, hkl2]
        repeat with_reducible refine And.intro (by first | assumption | omega | (simp; done) | (simp; omega) | (intro hg; simp (config := { decide := true }) only [go_sem, hg]; done) | (intro hg; simp (config := { decide := true }) only [go_sem, hg]; omega)) ?_
        refine hκ _ _ ?_; clear hκ hξ ξ κ
        refine cd (by rfl) (fun c3 => ?_) (fun c3 => ?_)
        · try simp only [go_sem] at c3
          refine sq ?_
          refine rg [2] [] [] (by kernel_rfl) ?_; intro κ ξ hκ hξ
          try simp (config := { decide := true }) only [go_sem, Nat.reduceMul, Nat.reduceAdd, c0, c1, hb4, hk1, hk0, hkw, hkl, hkl2, c3]
          repeat with_reducible refine And.intro (by first | assumption | omega | (simp; done) | (simp; omega) | (intro hg; simp (config := { decide := true }) only [go_sem, hg]; done) | (intro hg; simp (config := { decide := true }) only [go_sem, hg]; omega)) ?_
          refine hκ _ _ ?_; clear hκ hξ ξ κ
          refine rt ?_
          refine retE ?_
          simp (config := { decide := true }) only [go_sem, resD, resV, c0, c1, hb4, hk1, hk0, hkw, hkl, hkl2, c3]
          all_goals rw [fok_false.2 ?_]
          rintro ⟨_, hh, _⟩
          have := hh (k + 1) (by omega)
          simp only [gok, Nat.add_sub_cancel] at this
          omega
        · try simp only [go_sem] at c3
          refine sk ?_
          refine rg [1, 22, 23, 24] [] [] (by kernel_rfl) ?_; intro κ ξ hκ hξ
          try simp (config := { decide := true }) only [go_sem, Nat.reduceMul, Nat.reduceAdd, c0, c1, hb4, hk1, hk0, hkw, hkl, hkl2, c3]
          repeat with_reducible refine And.intro (by first | assumption | omega | (simp; done) | (simp; omega) | (intro hg; simp (config := { decide := true }) only [go_sem, hg]; done) | (intro hg; simp (config := { decide := true }) only [go_sem, hg]; omega)) ?_
          refine hκ _ _ ?_; clear hκ hξ ξ κ
          refine ⟨(k + 1) + 1, ⟨⟨by omega, ?_⟩, by omega⟩, EnvLe.of_eq (by rw [w64 (by omega)]; rfl), List.nil_sublist _⟩
          intro j h
          rcases Nat.lt_succ_iff_lt_or_eq.1 h with h | rfl
          · exact hj j h
          · simp only [gok, Nat.add_sub_cancel]
            exact ⟨by omega, by omega, by omega, by omega, fun h0 => by omega⟩
    · try simp only [go_sem] at c1
      refine ex ?_
      refine sq ?_
      refine sq ?_
      refine rg [1, 65, 66, 67] [] [] (by kernel_rfl) ?_; intro κ ξ hκ hξ
      try simp (config := { decide := true }) only [go_sem, Nat.reduceMul, Nat.reduceAdd, c0, c1]
      repeat with_reducible refine And.intro (by first | assumption | omega | (simp; done) | (simp; omega) | (intro hg; simp (config := { decide := true }) only [go_sem, hg]; done) | (intro hg; simp (config := { decide := true }) only [go_sem, hg]; omega)) ?_
      refine hκ _ _ ?_; clear hκ hξ ξ κ
      refine bl ?_
      have hG : ∀ i, i < gs.length → gok gs i := fun j h => hj j (by omega)
      have hs := fok_sorted hG
      have hn : gs.length ≤ 1000 := by omega
      refine lp (α := Nat) (fun i => mk [(1, .el [.sl 2 (gs.map grow) tg, .sl 3 (ks.map krow) tk]), (65, .sl 3 (ks.map krow) tk), (66, .int .i64 ks.length), (67, .int .i64 i)]) (fun _ => []) (fun i => i ≤ ks.length ∧ ∀ j, j < i → kok gs ks j) (fun i => ks.length - i) 0 ⟨⟨by omega, by intro j hj; omega⟩, EnvLe.of_eq rfl, .refl _⟩ ?_
      rintro i ⟨hi, hj⟩
      have hgr2 := gget_range hG (kat ks i).1
      have hneg : IntKind.wrap .i64 (0 - (gget gs (kat ks i).1).2) = -(gget gs (kat ks i).1).2 := by rw [w64 (by omega)]; omega
      refine sq ?_
      refine rg [1, 65, 66, 67, 68] [] [] (by kernel_rfl) ?_; intro κ ξ hκ hξ
      try simp (config := { decide := true }) only [go_sem, Nat.reduceMul, Nat.reduceAdd, c0, c1, hneg]
      repeat with_reducible refine And.intro (by first | assumption | omega | (simp; done) | (simp; omega) | (intro hg; simp (config := { decide := true }) only [go_sem, hg]; done) | (intro hg; simp (config := { decide := true }) only [go_sem, hg]; omega)) ?_
      refine hκ _ _ ?_; clear hκ hξ ξ κ
      refine sq ?_
      refine cd (by rfl) (fun c4 => ?_) (fun c4 => ?_)
      · try simp only [go_sem] at c4
        refine sk ?_
        refine sq ?_
        refine bl ?_
        refine sq ?_
        refine rgz [(6, [])] [1, 5, 6, 65, 66, 67] [] [] (by kernel_rfl) ?_; intro κ ξ hκ hξ
        try simp (config := { decide := true }) only [go_sem, Nat.reduceMul, Nat.reduceAdd, c0, c1, hneg, c4]
        repeat with_reducible refine And.intro (by first | assumption | omega | (simp; done) | (simp; omega) | (intro hg; simp (config := { decide := true }) only [go_sem, hg]; done) | (intro hg; simp (config := { decide := true }) only [go_sem, hg]; omega)) ?_
        intro b6 hb6
        try simp (config := { decide := true }) only [go_sem, Nat.reduceMul, Nat.reduceAdd, c0, c1, hneg, c4, hb6]
        repeat with_reducible refine And.intro (by first | assumption | omega | (simp; done) | (simp; omega) | (intro hg; simp (config := { decide := true }) only [go_sem, hg]; done) | (intro hg; simp (config := { decide := true }) only [go_sem, hg]; omega)) ?_
        refine hκ _ _ ?_; clear hκ hξ ξ κ
        refine sq ?_
        refine rgz [(7, [])] [1, 5, 6, 7, 8, 65, 66, 67] [] [] (by kernel_rfl) ?_; intro κ ξ hκ hξ
        try simp (config := { decide := true }) only [go_sem, Nat.reduceMul, Nat.reduceAdd, c0, c1, hneg, c4, hb6]
        repeat with_reducible refine And.intro (by first | assumption | omega | (simp; done) | (simp; omega) | (intro hg; simp (config := { decide := true }) only [go_sem, hg]; done) | (intro hg; simp (config := { decide := true }) only [go_sem, hg]; omega)) ?_
        refine callF (glyph_s hn hs) ?_
        try simp (config := { decide := true }) only [go_sem, Nat.reduceMul, Nat.reduceAdd, c0, c1, hneg, c4, hb6]
        repeat with_reducible refine And.intro (by first | assumption | omega | (simp; done) | (simp; omega) | (intro hg; simp (config := { decide := true }) only [go_sem, hg]; done) | (intro hg; simp (config := { decide := true }) only [go_sem, hg]; omega)) ?_
        intro b7 hb7
        try simp (config := { decide := true }) only [go_sem, Nat.reduceMul, Nat.reduceAdd, c0, c1, hneg, c4, hb6, hb7]
        repeat with_reducible refine And.intro (by first | assumption | omega | (simp; done) | (simp; omega) | (intro hg; simp (config := { decide := true }) only [go_sem, hg]; done) | (intro hg; simp (config := { decide := true }) only [go_sem, hg]; omega)) ?_
        refine hκ _ _ ?_; clear hκ hξ ξ κ
        refine sq ?_
        refine rg [1, 5, 6, 7, 8, 10, 65, 66, 67] [] [] (by kernel_rfl) ?_; intro κ ξ hκ hξ
        try simp (config := { decide := true }) only [go_sem, Nat.reduceMul, Nat.reduceAdd, c0, c1, hneg, c4, hb6, hb7]
        repeat with_reducible refine And.intro (by first | assumption | omega | (simp; done) | (simp; omega) | (intro hg; simp (config := { decide := true }) only [go_sem, hg]; done) | (intro hg; simp (config := { decide := true }) only [go_sem, hg]; omega)) ?_
        refine callF (glyph_s hn hs) ?_
        try simp (config := { decide := true }) only [go_sem, Nat.reduceMul, Nat.reduceAdd, c0, c1, hneg, c4, hb6, hb7]
        repeat with_reducible refine And.intro (by first | assumption | omega | (simp; done) | (simp; omega) | (intro hg; simp (config := { decide := true }) only [go_sem, hg]; done) | (intro hg; simp (config := { decide := true }) only [go_sem, hg]; omega)) ?_
        intro b9 hb9
        try simp (config := { decide := true }) only [go_sem, Nat.reduceMul, Nat.reduceAdd, c0, c1, hneg, c4, hb6, hb7, hb9]
        repeat with_reducible refine And.intro (by first | assumption | omega | (simp; done) | (simp; omega) | (intro hg; simp (config := { decide := true }) only [go_sem, hg]; done) | (intro hg; simp (config := { decide := true }) only [go_sem, hg]; omega)) ?_
        refine hκ _ _ ?_; clear hκ hξ ξ κ
        refine sq ?_
        refine sq ?_
        refine rg [1, 5, 6, 65, 66, 67, 104] [] [(2, 88), (6, 92), (11, 97)] (by kernel_rfl) ?_; intro κ ξ hκ hξ
        try simp (config := { decide := true }) only [go_sem, Nat.reduceMul, Nat.reduceAdd, c0, c1, hneg, c4, hb6, hb7, hb9]
        repeat with_reducible refine And.intro (by first | assumption | omega | (simp; done) | (simp; omega) | (intro hg; simp (config := { decide := true }) only [go_sem, hg]; done) | (intro hg; simp (config := { decide := true }) only [go_sem, hg]; omega)) ?_
        refine hκ _ _ ?_; clear hκ hξ ξ κ
        refine cd (by rfl) (fun c5 => ?_) (fun c5 => ?_)
        · try simp only [go_sem] at c5
          refine sq ?_
          refine rg [2] [] [] (by kernel_rfl) ?_; intro κ ξ hκ hξ
          try simp (config := { decide := true }) only [go_sem, Nat.reduceMul, Nat.reduceAdd, c0, c1, hneg, c4, hb6, hb7, hb9, c5]
          repeat with_reducible refine And.intro (by first | assumption | omega | (simp; done) | (simp; omega) | (intro hg; simp (config := { decide := true }) only [go_sem, hg]; done) | (intro hg; simp (config := { decide := true }) only [go_sem, hg]; omega)) ?_
          refine hκ _ _ ?_; clear hκ hξ ξ κ
          refine rt ?_
          refine retE ?_
          simp (config := { decide := true }) only [go_sem, resD, resV, c0, c1, hneg, c4, hb6, hb7, hb9, c5]
          all_goals rw [fok_false.2 ?_]
          rintro ⟨_, _, hh⟩
          have hq := hh i (by omega)
          simp only [kok, Nat.add_sub_cancel] at hq
          obtain ⟨q1, q2, q3, q4, q5⟩ := hq
          omega
        · try simp only [go_sem] at c5
          refine sk ?_
          refine sq ?_
          rcases i with _ | k
          · have hi0 : ((0 : Nat) : Int) = 0 := rfl
            refine rgd [1, 65, 66, 67, 121] [] [119] [(2, 107)] (by kernel_rfl) (by kernel_rfl) ?_; intro κ ξ hκ hξ
            try simp (config := { decide := true }) only [go_sem, Nat.reduceMul, Nat.reduceAdd, c0, c1, hneg, c4, hb6, hb7, hb9, c5, hi0]
            repeat with_reducible refine And.intro (by first | assumption | omega | (simp; done) | (simp; omega) | (intro hg; simp (config := { decide := true }) only [go_sem, hg]; done) | (intro hg; simp (config := { decide := true }) only [go_sem, hg]; omega)) ?_
            refine vd_gc (by rfl) ?_; simp (config := { decide := true }) only [go_sem, c0, c1, hneg, c4, hb6, hb7, hb9, c5, hi0]; first | refine gcallN ?_ | refine gcallF (fun hg => ⟨by first | rfl | (simp (config := { decide := true }) only [go_sem, hg, c0, c1, hneg, c4, hb6, hb7, hb9, c5, hi0]; done), kcmp_w _ (kp (kat ks (k + 1)))⟩) ?_
            try simp (config := { decide := true }) only [go_sem, Nat.reduceMul, Nat.reduceAdd, c0, c1, hneg, c4, hb6, hb7, hb9, c5, hi0]
            repeat with_reducible refine And.intro (by first | assumption | omega | (simp; done) | (simp; omega) | (intro hg; simp (config := { decide := true }) only [go_sem, hg]; done) | (intro hg; simp (config := { decide := true }) only [go_sem, hg]; omega)) ?_
            refine hκ _ _ ?_; clear hκ hξ ξ κ
            refine cdf (by rfl) ?_
            refine sk ?_
            refine rg [1, 65, 66, 67] [] [] (by kernel_rfl) ?_; intro κ ξ hκ hξ
            try simp (config := { decide := true }) only [go_sem, Nat.reduceMul, Nat.reduceAdd, c0, c1, hneg, c4, hb6, hb7, hb9, c5, hi0]
            repeat with_reducible refine And.intro (by first | assumption | omega | (simp; done) | (simp; omega) | (intro hg; simp (config := { decide := true }) only [go_sem, hg]; done) | (intro hg; simp (config := { decide := true }) only [go_sem, hg]; omega)) ?_
            refine hκ _ _ ?_; clear hκ hξ ξ κ
            refine ⟨0 + 1, ⟨⟨by omega, ?_⟩, by omega⟩, EnvLe.of_eq (by rw [w64 (by omega)]; rfl), List.nil_sublist _⟩
            intro j h
            rcases Nat.lt_succ_iff_lt_or_eq.1 h with h | rfl
            · exact hj j h
            · simp only [kok, Nat.add_sub_cancel]
              exact ⟨by omega, by omega, by omega, by omega, fun h0 => by omega⟩
          · have hk1 : ((k + 1 : Nat) : Int) = (k : Int) + 1 := rfl
            have hk0 : (0 : Int) < (k : Int) + 1 := by omega
            have hkw : IntKind.wrap .i64 ((k : Int) + 1 - 1) = k := by rw [w64 (by omega)]; omega
            have hkl : (k : Int) < ks.length := by omega
            have hkl2 : (k : Int) + 1 < ks.length := by omega
            refine rgd [1, 65, 66, 67, 121] [] [119] [(2, 107)] (by kernel_rfl) (by kernel_rfl) ?_; intro κ ξ hκ hξ
            try simp (config := { decide := true }) only [go_sem, Nat.reduceMul, Nat.reduceAdd, c0, c1, hneg, c4, hb6, hb7, hb9, c5, hk1, hk0, hkw, hkl, hkl2]
            repeat with_reducible refine And.intro (by first | assumption | omega | (simp; done) | (simp; omega) | (intro hg; simp (config := { decide := true }) only [go_sem, hg]; done) | (intro hg; simp (config := { decide := true }) only [go_sem, hg]; omega)) ?_
            refine vd_gc (by rfl) ?_; simp (config := { decide := true }) only [go_sem, c0, c1, hneg, c4, hb6, hb7, hb9, c5, hk1, hk0, hkw, hkl, hkl2]; first | refine gcallN ?_ | refine gcallF (fun hg => ⟨by first | rfl | (simp (config := { decide := true }) only [go_sem, hg, c0, c1, hneg, c4, hb6, hb7, hb9, c5, hk1, hk0, hkw, hkl, hkl2]; done), kcmp_w _ (kp (kat ks (k + 1)))⟩) ?_
            try simp (config := { decide := true }) only [go_sem, Nat.reduceMul, Nat.reduceAdd, c0, c1, hneg, c4, hb6, hb7, hb9, c5, hk1, hk0, hkw, hkl, hkl2]
            repeat with_reducible refine And.intro (by first | assumption | omega | (simp; done) | (simp; omega) | (intro hg; simp (config := { decide := true }) only [go_sem, hg]; done) | (intro hg; simp (config := { decide := true }) only [go_sem, hg]; omega)) ?_
            refine hκ _ _ ?_; clear hκ hξ ξ κ
            refine cd (by rfl) (fun c6 => ?_) (fun c6 => ?_)
            · try simp only [go_sem] at c6
              refine sq ?_
              refine rg [2] [] [] (by kernel_rfl) ?_; intro κ ξ hκ hξ
              try simp (config := { decide := true }) only [go_sem, Nat.reduceMul, Nat.reduceAdd, c0, c1, hneg, c4, hb6, hb7, hb9, c5, hk1, hk0, hkw, hkl, hkl2, c6]
              repeat with_reducible refine And.intro (by first | assumption | omega | (simp; done) | (simp; omega) | (intro hg; simp (config := { decide := true }) only [go_sem, hg]; done) | (intro hg; simp (config := { decide := true }) only [go_sem, hg]; omega)) ?_
              refine hκ _ _ ?_; clear hκ hξ ξ κ
              refine rt ?_
              refine retE ?_
              simp (config := { decide := true }) only [go_sem, resD, resV, c0, c1, hneg, c4, hb6, hb7, hb9, c5, hk1, hk0, hkw, hkl, hkl2, c6]
              all_goals rw [fok_false.2 ?_]
              rintro ⟨_, _, hh⟩
              have hq := hh (k + 1) (by omega)
              simp only [kok, Nat.add_sub_cancel] at hq
              obtain ⟨q1, q2, q3, q4, q5⟩ := hq
              have q6 := kcmp_lt.2 (q5 (by omega))
              omega
            · try simp only [go_sem] at c6
              refine sk ?_
              refine rg [1, 65, 66, 67] [] [] (by kernel_rfl) ?_; intro κ ξ hκ hξ
              try simp (config := { decide := true }) only [go_sem, Nat.reduceMul, Nat.reduceAdd, c0, c1, hneg, c4, hb6, hb7, hb9, c5, hk1, hk0, hkw, hkl, hkl2, c6]
              repeat with_reducible refine And.intro (by first | assumption | omega | (simp; done) | (simp; omega) | (intro hg; simp (config := { decide := true }) only [go_sem, hg]; done) | (intro hg; simp (config := { decide := true }) only [go_sem, hg]; omega)) ?_
              refine hκ _ _ ?_; clear hκ hξ ξ κ
              refine ⟨(k + 1) + 1, ⟨⟨by omega, ?_⟩, by omega⟩, EnvLe.of_eq (by rw [w64 (by omega)]; rfl), List.nil_sublist _⟩
              intro j h
              rcases Nat.lt_succ_iff_lt_or_eq.1 h with h | rfl
              · exact hj j h
              · simp only [kok, Nat.add_sub_cancel]
                exact ⟨by omega, by omega, by omega, by omega, fun h0 => kcmp_lt.1 (by omega)⟩
      · try simp only [go_sem] at c4
        refine ex ?_
        refine sq ?_
        refine rg [2] [] [] (by kernel_rfl) ?_; intro κ ξ hκ hξ
        try simp (config := { decide := true }) only [go_sem, Nat.reduceMul, Nat.reduceAdd, c0, c1, hneg, c4]
        repeat with_reducible refine And.intro (by first | assumption | omega | (simp; done) | (simp; omega) | (intro hg; simp (config := { decide := true }) only [go_sem, hg]; done) | (intro hg; simp (config := { decide := true }) only [go_sem, hg]; omega)) ?_
        refine hκ _ _ ?_; clear hκ hξ ξ κ
        refine rt ?_
        refine retE ?_
        simp (config := { decide := true }) only [go_sem, resD, resV, c0, c1, hneg, c4]
        all_goals rw [fok_true.2 ⟨by omega, hG, fun j h => hj j (by omega)⟩]

end Go.Proofs.Ytllimenhdemgoaa

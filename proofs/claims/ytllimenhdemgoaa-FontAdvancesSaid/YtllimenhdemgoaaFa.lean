/- The walks of package font: classes of bytes, searches. Printed by a tool of our own. -/
import Derived.Test.YtllimenhdemgoaaF
import Derived.Test.YtllimenhdemgoaaAk
namespace Go.Proofs.Ytllimenhdemgoaa
open Go Go.RowKit
set_option linter.unusedSimpArgs false
set_option linter.unusedVariables false
set_option maxHeartbeats 4000000
def cls (c : Int) : Int := if c = 32 then 4 else if c = 126 then 6 else if c < 32 ∨ 126 < c then 0 else if 97 ≤ c ∧ c ≤ 122 then 1 else if 65 ≤ c ∧ c ≤ 90 then 2 else if 48 ≤ c ∧ c ≤ 57 then 3 else 5
def tv (s : List UInt8) : Bool := decide ((∀ c ∈ s, cls c.toNat ≠ 0) ∧ s.length ≤ 2000)
abbrev Gl := Int × Int
abbrev Kn := Int × Int × Int
def grow (g : Gl) : List D := [.int .u8 g.1, .int .i64 g.2]
def krow (k : Kn) : List D := [.int .u8 k.1, .int .u8 k.2.1, .int .i64 k.2.2]
def gat (gs : List Gl) (i : Nat) : Gl := gs.getD i (0, 0)
def kat (ks : List Kn) (i : Nat) : Kn := ks.getD i (0, 0, 0)
theorem rowAt_map {α : Type} (f : α → List D) (d : α) {l : List α} {i : Nat} (h : (i : Int) < (l.length : Int)) : rowAt (l.map f) i = f (l.getD i d) := by
  have h' : i < l.length := by omega
  simp [rowAt, h']
theorem rowAt_g {gs : List Gl} {i : Nat} (h : (i : Int) < (gs.length : Int)) : rowAt (gs.map grow) i = grow (gat gs i) := rowAt_map grow _ h
theorem rowAt_k {ks : List Kn} {i : Nat} (h : (i : Int) < (ks.length : Int)) : rowAt (ks.map krow) i = krow (kat ks i) := rowAt_map krow _ h
def oi : Option Nat → Int
  | none => -1
  | some i => i
def gidx (gs : List Gl) (b : Int) : Int := oi (gs.findIdx? fun g => decide (g.1 = b))
theorem gidx_some {gs : List Gl} {b : Int} {i : Nat} (h : i < gs.length) (h1 : (gat gs i).1 = b) (h2 : ∀ j, j < i → (gat gs j).1 ≠ b) : gidx gs b = i := by
  unfold gidx
  rw [List.findIdx?_eq_some_iff_getElem.2 ⟨h, by simpa [gat, h] using h1, fun j hj => by have := h2 j hj; simpa [gat, show j < gs.length from by omega] using this⟩]
  rfl
theorem gidx_none {gs : List Gl} {b : Int} (h2 : ∀ j, j < gs.length → (gat gs j).1 ≠ b) : gidx gs b = -1 := by
  unfold gidx
  rw [List.findIdx?_eq_none_iff.2 fun g hg => by
    obtain ⟨j, hj, rfl⟩ := List.getElem_of_mem hg
    simpa [gat, hj] using h2 j hj]
  rfl
def kfind (ks : List Kn) (a b : Int) : Int := match ks.find? fun k => decide (k.1 = a ∧ k.2.1 = b) with
  | some k => k.2.2
  | none => 0
theorem kfind_some {ks : List Kn} {a b : Int} {i : Nat} (h : i < ks.length) (h1 : (kat ks i).1 = a ∧ (kat ks i).2.1 = b) (h2 : ∀ j, j < i → ¬ ((kat ks j).1 = a ∧ (kat ks j).2.1 = b)) : kfind ks a b = (kat ks i).2.2 := by
  unfold kfind
  have : ks.find? (fun k => decide (k.1 = a ∧ k.2.1 = b)) = some (kat ks i) := by
    rw [List.find?_eq_some_iff_getElem]
    refine ⟨by simpa using h1, i, h, by simp [kat, h], fun j hj => ?_⟩
    have := h2 j hj
    simp only [kat, List.getD_eq_getElem?_getD, List.getElem?_eq_getElem (show j < ks.length from by omega), Option.getD_some] at this
    simp only [Bool.not_eq_true', decide_eq_false_iff_not]
    exact this
  rw [this]
theorem kfind_none {ks : List Kn} {a b : Int} (h2 : ∀ j, j < ks.length → ¬ ((kat ks j).1 = a ∧ (kat ks j).2.1 = b)) : kfind ks a b = 0 := by
  unfold kfind
  have : ks.find? (fun k => decide (k.1 = a ∧ k.2.1 = b)) = none := by
    rw [List.find?_eq_none]
    intro k hk
    obtain ⟨j, hj, rfl⟩ := List.getElem_of_mem hk
    have := h2 j hj
    simp only [kat, List.getD_eq_getElem?_getD, List.getElem?_eq_getElem hj, Option.getD_some] at this
    simp only [decide_eq_true_eq]
    exact this
  rw [this]
def icmp (x y : Int) : Int := if x < y then -1 else if y < x then 1 else 0
def ior (vs : List Int) : Int := (vs.find? fun v => decide (v ≠ 0)).getD 0
def irow (v : Int) : List D := [.int .i64 v]
theorem rowAt_i {vs : List Int} {i : Nat} (h : (i : Int) < (vs.length : Int)) : rowAt (vs.map irow) i = irow (vs.getD i 0) := rowAt_map irow _ h
def prow (p : Int × Int) : List D := [.int .u8 p.1, .int .u8 p.2]
def kcmp (k : Kn) (p : Int × Int) : Int := ior [icmp k.1 p.1, icmp k.2.1 p.2]
theorem ior_some {vs : List Int} {i : Nat} (h : i < vs.length) (h1 : vs.getD i 0 ≠ 0) (h2 : ∀ j, j < i → vs.getD j 0 = 0) : ior vs = vs.getD i 0 := by
  unfold ior
  have : vs.find? (fun v => decide (v ≠ 0)) = some (vs.getD i 0) := by
    rw [List.find?_eq_some_iff_getElem]
    refine ⟨by simpa using h1, i, h, by simp [h], fun j hj => ?_⟩
    have := h2 j hj
    simp only [List.getD_eq_getElem?_getD, List.getElem?_eq_getElem (show j < vs.length from by omega), Option.getD_some] at this
    simpa using this
  rw [this]; rfl
theorem ior_none {vs : List Int} (h2 : ∀ j, j < vs.length → vs.getD j 0 = 0) : ior vs = 0 := by
  unfold ior
  have : vs.find? (fun v => decide (v ≠ 0)) = none := by
    rw [List.find?_eq_none]
    intro v hv
    obtain ⟨j, hj, rfl⟩ := List.getElem_of_mem hv
    have := h2 j hj
    simp only [List.getD_eq_getElem?_getD, List.getElem?_eq_getElem hj, Option.getD_some] at this
    simpa using this
  rw [this]; rfl
theorem mid_eq {i j : Nat} (h : i + j ≤ 562949953421312) : IntKind.wrap .i64 ((IntKind.wrap .u64 (IntKind.wrap .i64 ((i : Int) + j))).fdiv (2 ^ (min (Int.toNat 1) 64))) = (((i + j) / 2 : Nat) : Int) := by
  rw [w64 (n := (i : Int) + j) (by omega), wu64 (n := (i : Int) + j) (by omega)]
  have e : ((2 : Int) ^ (min (Int.toNat 1) 64)) = 2 := by decide
  rw [e, Int.fdiv_eq_ediv_of_nonneg _ (by omega), w64 (by omega)]
  omega
attribute [local go_sem ↓] vo_nil vK_eq vo_q vo_g vo_n vo_c vd_nil dK_eq eK_eq vd_q vd_g vd_n vd_st vd_c cgs_call cgs_builtin
attribute [local go_sem] Ext_refl Ext_cons
attribute [local go_sem] quiet_move quiet_assign quiet_pick quiet_binOp quiet_unOp quiet_convert quiet_field quiet_fieldAddr quiet_indexAddr quiet_index quiet_load quiet_lookup quiet_extract quiet_build quiet_makeInterface quiet_makeFunc quiet_slice quiet_nilCheck quiet_alloc isCall_alloc quiet_box isCall_box quiet_buildSlice isCall_buildSlice quiet_store isCall_store quiet_range isCall_range quiet_next isCall_next quiet_makeSlice isCall_makeSlice quiet_panic isCall_panic quiet_len quiet_cap quiet_min quiet_max quiet_append isCall_append quiet_copy isCall_copy quiet_delete isCall_delete nqk_alloc nqk_box nqk_buildSlice nqk_range nqk_next nqk_makeSlice nqk_panic nqk_makeMap nqk_entry nqk_append nqk_copy nqk_delete isSt_alloc isSt_box isSt_buildSlice isSt_range isSt_next isSt_makeSlice isSt_panic isSt_makeMap isSt_entry isSt_store isSt_mapUpdate isSt_insert isSt_append isSt_copy isSt_delete quiet_makeMap isCall_makeMap quiet_mapUpdate isCall_mapUpdate quiet_insert isCall_insert
attribute [local go_sem] argEnv qev opd put_some put_none set_at mk_cons mk_nil prune_eq D.ofV ofC_int ofC_str true_and ofC_bool bop isSh ibop Bool.false_eq_true if_false if_true and_self D.core D.cg qpick isB bof gval look Option.bind_some opc cgs Op.operands List.all_cons List.all_nil Bool.and_true and_true true_imp_iff imp_self false_imp_iff beq_true beq_false beq_iff_eq decide_eq_true_eq List.map_cons List.map_nil Bool.not_eq_true' decide_eq_false_iff_not gof gq gev cond_some Option.isSome_some Bool.or_eq_true Bool.and_eq_true Bool.or_eq_false_iff Bool.and_eq_false_iff Bool.not_eq_true Bool.not_eq_false Bool.not_eq_false' ne_eq implies_true forall_const Bool.cond_true_left Bool.cond_false_right not_false_eq_true not_true_eq_false Int.toNat_natCast Int.toNat_zero
attribute [local go_sem] qbuiltin qlook ments foldI mget mput keqD keyOK lookD nput agop deqF deq1 nappZ cond_true cond_false Option.getD_some Option.getD_none Option.isSome_none ite_self qindex qslice qconv qextract qfield qfaddr qiaddr qload quop qiface qbuild qnil ldC ldD ob List.drop_succ_cons List.drop_zero List.take_succ_cons List.take_zero List.length_cons List.length_nil List.getElem?_cons_zero List.getElem?_cons_succ Option.map_some Option.map_none List.head?_cons
attribute [local go_sem] nev isImm List.contains_cons List.contains_nil Bool.or_false Bool.or_true D.flat D.cellsOf D.isCell Bool.or_self Bool.and_self szOf nstore Store.get Store.upd putCells nk_cons not_or FZ frzE_mk frzL inL frz Store.del or_false boxCells List.headD_cons List.headD_nil List.nil_append List.append_nil List.cons_append List.drop_nil false_and and_false false_or true_or or_true Bool.false_and Bool.true_and Bool.false_or Bool.true_or Bool.and_false setPs lim_eq chunk zrep pls_eq plsF fillD resAll shop sbop bbop decide_true decide_false Bool.not_true Bool.not_false eq_self
attribute [local go_sem] tf0 tf1 tf2 tf3 tf4 tf5 tf6 tf7 tf8 tf9 tf10 tf11 tf12 tf13 tf14 tf15 tf16 tf17 tf18 tf19 tf20 tf21 tf22 tf23 tf24 tf25 tf26 tf27 tf28 tf29 tf30 tf31 tf32 tf33 tf34 tf35 tf36 tf37 tf38 tf39 tf40 tf41 tf42 tf43 tf44 tf45 tf46 tf47 tf48 tf49 tf50 tf51 tf52 tf53 tf54 tf55 tf56 tf57 tf58 tf59 tf60 tf61 tf62 tf63 tf64 tf65 tf66 tf67 tf68 tf69 tf70 tf71 tf72 tf73 tf74 tf75 tf76 tf77 tf78 tf79 tf80 tf81 tf82 tf83 tf84 tf85 tf86 tf87 tf88 tf89 tf90 tf91 tf92 tf93 tf94 tf95 tf96 tf97 tf98 tf99 tf100 tf101 tf102 tf103 tf104 tf105 tf106 tf107 tf108 tf109 tf110 tf111 tf112 tf113 tf114 tf115 tf116 tf117 tf118 tf119 tf120 tf121 tf122 tf123 tf124 tf125 tf126 tf127 tf128 tf129 tf130 tf131 tf132 tf133 tf134 tf135 tf136 tf137 tf138 tf139 tf140 tf141 tf142 tf143 tf144 tf145 tf146 tf147 tf148 tf149 tf150 tf151 tf152 tf153 tf154 tf155 tf156 tf157 tf158 tf159 tf160 tf161 tf162 tf163 tf164 tf165 tf166 tf167 tf168 tf169 tf170 tf171 tf172 tf173 tf174 tf175 tf176 tf177 tf178 tf179 tf180 tf181 tf182 tf183 tf184 tf185 tf186 tf187 tf188 tf189 tf190 tf191 tf192 tf193 tf194 tf195 tf196 tf197 tf198 tf199 tf200 tf201 tf202 tf203
attribute [local go_sem] List.length_map rowAt_g rowAt_k grow krow rowAt_i irow prow
theorem class_w (c : Int) : PCall Try.prog (.func 32) [.int .u8 c] (.int .i64 (cls c)) := by
  refine PCall.le ?_
  refine fn_ Try.func32 (by rfl) (by rfl) (rs := [.tmp 2]) (by rfl) (by simp [Try.f32]) ?_
  refine sq ?_
  refine rg [0] [] [] (by kernel_rfl) ?_; intro κ ξ hκ hξ
  try simp (config := { decide := true }) only [go_sem, Nat.reduceMul, Nat.reduceAdd]
  repeat with_reducible refine And.intro (by first | assumption | omega | (simp; done) | (simp; omega) | (intro hg; simp (config := { decide := true }) only [go_sem, hg]; done) | (intro hg; simp (config := { decide := true }) only [go_sem, hg]; omega)) ?_
  refine hκ _ _ ?_; clear hκ hξ ξ κ
  refine sq ?_
  refine bl ?_
  refine sq ?_
  refine rg [0, 3] [] [] (by kernel_rfl) ?_; intro κ ξ hκ hξ
  try simp (config := { decide := true }) only [go_sem, Nat.reduceMul, Nat.reduceAdd]
  repeat with_reducible refine And.intro (by first | assumption | omega | (simp; done) | (simp; omega) | (intro hg; simp (config := { decide := true }) only [go_sem, hg]; done) | (intro hg; simp (config := { decide := true }) only [go_sem, hg]; omega)) ?_
  refine hκ _ _ ?_; clear hκ hξ ξ κ
  refine cd (by rfl) (fun c0 => ?_) (fun c0 => ?_)
  · try simp only [go_sem] at c0
    refine sq ?_
    refine rg [2] [] [] (by kernel_rfl) ?_; intro κ ξ hκ hξ
    try simp (config := { decide := true }) only [go_sem, Nat.reduceMul, Nat.reduceAdd, c0]
    repeat with_reducible refine And.intro (by first | assumption | omega | (simp; done) | (simp; omega) | (intro hg; simp (config := { decide := true }) only [go_sem, hg]; done) | (intro hg; simp (config := { decide := true }) only [go_sem, hg]; omega)) ?_
    refine hκ _ _ ?_; clear hκ hξ ξ κ
    refine rt ?_
    refine retE ?_
    simp (config := { decide := true }) only [go_sem, resD, resV, c0]
    all_goals congr 1; all_goals unfold cls; all_goals repeat (first | rw [if_pos (by omega)] | rw [if_neg (by omega)])
  · try simp only [go_sem] at c0
    refine sq ?_
    refine rg [0, 6] [] [] (by kernel_rfl) ?_; intro κ ξ hκ hξ
    try simp (config := { decide := true }) only [go_sem, Nat.reduceMul, Nat.reduceAdd, c0]
    repeat with_reducible refine And.intro (by first | assumption | omega | (simp; done) | (simp; omega) | (intro hg; simp (config := { decide := true }) only [go_sem, hg]; done) | (intro hg; simp (config := { decide := true }) only [go_sem, hg]; omega)) ?_
    refine hκ _ _ ?_; clear hκ hξ ξ κ
    refine cd (by rfl) (fun c1 => ?_) (fun c1 => ?_)
    · try simp only [go_sem] at c1
      refine sq ?_
      refine rg [2] [] [] (by kernel_rfl) ?_; intro κ ξ hκ hξ
      try simp (config := { decide := true }) only [go_sem, Nat.reduceMul, Nat.reduceAdd, c0, c1]
      repeat with_reducible refine And.intro (by first | assumption | omega | (simp; done) | (simp; omega) | (intro hg; simp (config := { decide := true }) only [go_sem, hg]; done) | (intro hg; simp (config := { decide := true }) only [go_sem, hg]; omega)) ?_
      refine hκ _ _ ?_; clear hκ hξ ξ κ
      refine rt ?_
      refine retE ?_
      simp (config := { decide := true }) only [go_sem, resD, resV, c0, c1]
      all_goals congr 1; all_goals unfold cls; all_goals repeat (first | rw [if_pos (by omega)] | rw [if_neg (by omega)])
    · try simp only [go_sem] at c1
      refine sq ?_
      refine rg [0, 9] [] [(2, 12)] (by kernel_rfl) ?_; intro κ ξ hκ hξ
      try simp (config := { decide := true }) only [go_sem, Nat.reduceMul, Nat.reduceAdd, c0, c1]
      repeat with_reducible refine And.intro (by first | assumption | omega | (simp; done) | (simp; omega) | (intro hg; simp (config := { decide := true }) only [go_sem, hg]; done) | (intro hg; simp (config := { decide := true }) only [go_sem, hg]; omega)) ?_
      refine hκ _ _ ?_; clear hκ hξ ξ κ
      refine cd (by rfl) (fun c2 => ?_) (fun c2 => ?_)
      · try simp only [go_sem] at c2
        refine sq ?_
        refine rg [2] [] [] (by kernel_rfl) ?_; intro κ ξ hκ hξ
        try simp (config := { decide := true }) only [go_sem, Nat.reduceMul, Nat.reduceAdd, c0, c1, c2]
        repeat with_reducible refine And.intro (by first | assumption | omega | (simp; done) | (simp; omega) | (intro hg; simp (config := { decide := true }) only [go_sem, hg]; done) | (intro hg; simp (config := { decide := true }) only [go_sem, hg]; omega)) ?_
        refine hκ _ _ ?_; clear hκ hξ ξ κ
        refine rt ?_
        refine retE ?_
        simp (config := { decide := true }) only [go_sem, resD, resV, c0, c1, c2]
        all_goals congr 1; all_goals unfold cls; all_goals repeat (first | rw [if_pos (by omega)] | rw [if_neg (by omega)])
      · try simp only [go_sem] at c2
        refine sq ?_
        refine rg [0, 16] [] [(2, 19)] (by kernel_rfl) ?_; intro κ ξ hκ hξ
        try simp (config := { decide := true }) only [go_sem, Nat.reduceMul, Nat.reduceAdd, c0, c1, c2]
        repeat with_reducible refine And.intro (by first | assumption | omega | (simp; done) | (simp; omega) | (intro hg; simp (config := { decide := true }) only [go_sem, hg]; done) | (intro hg; simp (config := { decide := true }) only [go_sem, hg]; omega)) ?_
        refine hκ _ _ ?_; clear hκ hξ ξ κ
        refine cd (by rfl) (fun c3 => ?_) (fun c3 => ?_)
        · try simp only [go_sem] at c3
          refine sq ?_
          refine rg [2] [] [] (by kernel_rfl) ?_; intro κ ξ hκ hξ
          try simp (config := { decide := true }) only [go_sem, Nat.reduceMul, Nat.reduceAdd, c0, c1, c2, c3]
          repeat with_reducible refine And.intro (by first | assumption | omega | (simp; done) | (simp; omega) | (intro hg; simp (config := { decide := true }) only [go_sem, hg]; done) | (intro hg; simp (config := { decide := true }) only [go_sem, hg]; omega)) ?_
          refine hκ _ _ ?_; clear hκ hξ ξ κ
          refine rt ?_
          refine retE ?_
          simp (config := { decide := true }) only [go_sem, resD, resV, c0, c1, c2, c3]
          all_goals congr 1; all_goals unfold cls; all_goals repeat (first | rw [if_pos (by omega)] | rw [if_neg (by omega)])
        · try simp only [go_sem] at c3
          refine sq ?_
          refine rg [0, 23] [] [(2, 26)] (by kernel_rfl) ?_; intro κ ξ hκ hξ
          try simp (config := { decide := true }) only [go_sem, Nat.reduceMul, Nat.reduceAdd, c0, c1, c2, c3]
          repeat with_reducible refine And.intro (by first | assumption | omega | (simp; done) | (simp; omega) | (intro hg; simp (config := { decide := true }) only [go_sem, hg]; done) | (intro hg; simp (config := { decide := true }) only [go_sem, hg]; omega)) ?_
          refine hκ _ _ ?_; clear hκ hξ ξ κ
          refine cd (by rfl) (fun c4 => ?_) (fun c4 => ?_)
          · try simp only [go_sem] at c4
            refine sq ?_
            refine rg [2] [] [] (by kernel_rfl) ?_; intro κ ξ hκ hξ
            try simp (config := { decide := true }) only [go_sem, Nat.reduceMul, Nat.reduceAdd, c0, c1, c2, c3, c4]
            repeat with_reducible refine And.intro (by first | assumption | omega | (simp; done) | (simp; omega) | (intro hg; simp (config := { decide := true }) only [go_sem, hg]; done) | (intro hg; simp (config := { decide := true }) only [go_sem, hg]; omega)) ?_
            refine hκ _ _ ?_; clear hκ hξ ξ κ
            refine rt ?_
            refine retE ?_
            simp (config := { decide := true }) only [go_sem, resD, resV, c0, c1, c2, c3, c4]
            all_goals congr 1; all_goals unfold cls; all_goals repeat (first | rw [if_pos (by omega)] | rw [if_neg (by omega)])
          · try simp only [go_sem] at c4
            refine sq ?_
            refine rg [30] [] [(2, 33)] (by kernel_rfl) ?_; intro κ ξ hκ hξ
            try simp (config := { decide := true }) only [go_sem, Nat.reduceMul, Nat.reduceAdd, c0, c1, c2, c3, c4]
            repeat with_reducible refine And.intro (by first | assumption | omega | (simp; done) | (simp; omega) | (intro hg; simp (config := { decide := true }) only [go_sem, hg]; done) | (intro hg; simp (config := { decide := true }) only [go_sem, hg]; omega)) ?_
            refine hκ _ _ ?_; clear hκ hξ ξ κ
            refine cd (by rfl) (fun c5 => ?_) (fun c5 => ?_)
            · try simp only [go_sem] at c5
              refine sq ?_
              refine rg [2] [] [] (by kernel_rfl) ?_; intro κ ξ hκ hξ
              try simp (config := { decide := true }) only [go_sem, Nat.reduceMul, Nat.reduceAdd, c0, c1, c2, c3, c4, c5]
              repeat with_reducible refine And.intro (by first | assumption | omega | (simp; done) | (simp; omega) | (intro hg; simp (config := { decide := true }) only [go_sem, hg]; done) | (intro hg; simp (config := { decide := true }) only [go_sem, hg]; omega)) ?_
              refine hκ _ _ ?_; clear hκ hξ ξ κ
              refine rt ?_
              refine retE ?_
              simp (config := { decide := true }) only [go_sem, resD, resV, c0, c1, c2, c3, c4, c5]
              all_goals congr 1; all_goals unfold cls; all_goals repeat (first | rw [if_pos (by omega)] | rw [if_neg (by omega)])
            · try simp only [go_sem] at c5
              refine sk ?_
              refine sq ?_
              refine rg [2] [] [] (by kernel_rfl) ?_; intro κ ξ hκ hξ
              try simp (config := { decide := true }) only [go_sem, Nat.reduceMul, Nat.reduceAdd, c0, c1, c2, c3, c4, c5]
              repeat with_reducible refine And.intro (by first | assumption | omega | (simp; done) | (simp; omega) | (intro hg; simp (config := { decide := true }) only [go_sem, hg]; done) | (intro hg; simp (config := { decide := true }) only [go_sem, hg]; omega)) ?_
              refine hκ _ _ ?_; clear hκ hξ ξ κ
              refine rt ?_
              refine retE ?_
              simp (config := { decide := true }) only [go_sem, resD, resV, c0, c1, c2, c3, c4, c5]
              all_goals congr 1; all_goals unfold cls; all_goals repeat (first | rw [if_pos (by omega)] | rw [if_neg (by omega)])

theorem rclass_w (c : Int) : PCall Try.prog (.func 31) [.int .u8 c] (.int .i64 (cls c)) := by
  refine PCall.le ?_
  refine fn_ Try.func31 (by rfl) (by rfl) (rs := [.tmp 2]) (by rfl) (by simp [Try.f31]) ?_
  refine sq ?_
  refine rg [0] [] [] (by kernel_rfl) ?_; intro κ ξ hκ hξ
  try simp (config := { decide := true }) only [go_sem, Nat.reduceMul, Nat.reduceAdd]
  repeat with_reducible refine And.intro (by first | assumption | omega | (simp; done) | (simp; omega) | (intro hg; simp (config := { decide := true }) only [go_sem, hg]; done) | (intro hg; simp (config := { decide := true }) only [go_sem, hg]; omega)) ?_
  refine hκ _ _ ?_; clear hκ hξ ξ κ
  refine sq ?_
  refine sq ?_
  refine rg [0, 8] [] [(2, 5)] (by kernel_rfl) ?_; intro κ ξ hκ hξ
  try simp (config := { decide := true }) only [go_sem, Nat.reduceMul, Nat.reduceAdd]
  repeat with_reducible refine And.intro (by first | assumption | omega | (simp; done) | (simp; omega) | (intro hg; simp (config := { decide := true }) only [go_sem, hg]; done) | (intro hg; simp (config := { decide := true }) only [go_sem, hg]; omega)) ?_
  refine hκ _ _ ?_; clear hκ hξ ξ κ
  refine cd (by rfl) (fun c0 => ?_) (fun c0 => ?_)
  · try simp only [go_sem] at c0
    refine sq ?_
    refine rg [2] [] [] (by kernel_rfl) ?_; intro κ ξ hκ hξ
    try simp (config := { decide := true }) only [go_sem, Nat.reduceMul, Nat.reduceAdd, c0]
    repeat with_reducible refine And.intro (by first | assumption | omega | (simp; done) | (simp; omega) | (intro hg; simp (config := { decide := true }) only [go_sem, hg]; done) | (intro hg; simp (config := { decide := true }) only [go_sem, hg]; omega)) ?_
    refine hκ _ _ ?_; clear hκ hξ ξ κ
    refine rt ?_
    refine retE ?_
    simp (config := { decide := true }) only [go_sem, resD, resV, c0]
    all_goals congr 1; all_goals unfold cls; all_goals repeat (first | rw [if_pos (by omega)] | rw [if_neg (by omega)])
  · try simp only [go_sem] at c0
    refine sk ?_
    refine sq ?_
    refine sq ?_
    refine rg [0, 14] [] [(2, 11)] (by kernel_rfl) ?_; intro κ ξ hκ hξ
    try simp (config := { decide := true }) only [go_sem, Nat.reduceMul, Nat.reduceAdd, c0]
    repeat with_reducible refine And.intro (by first | assumption | omega | (simp; done) | (simp; omega) | (intro hg; simp (config := { decide := true }) only [go_sem, hg]; done) | (intro hg; simp (config := { decide := true }) only [go_sem, hg]; omega)) ?_
    refine hκ _ _ ?_; clear hκ hξ ξ κ
    refine cd (by rfl) (fun c1 => ?_) (fun c1 => ?_)
    · try simp only [go_sem] at c1
      refine sq ?_
      refine rg [2] [] [] (by kernel_rfl) ?_; intro κ ξ hκ hξ
      try simp (config := { decide := true }) only [go_sem, Nat.reduceMul, Nat.reduceAdd, c0, c1]
      repeat with_reducible refine And.intro (by first | assumption | omega | (simp; done) | (simp; omega) | (intro hg; simp (config := { decide := true }) only [go_sem, hg]; done) | (intro hg; simp (config := { decide := true }) only [go_sem, hg]; omega)) ?_
      refine hκ _ _ ?_; clear hκ hξ ξ κ
      refine rt ?_
      refine retE ?_
      simp (config := { decide := true }) only [go_sem, resD, resV, c0, c1]
      all_goals congr 1; all_goals unfold cls; all_goals repeat (first | rw [if_pos (by omega)] | rw [if_neg (by omega)])
    · try simp only [go_sem] at c1
      refine sk ?_
      refine sq ?_
      refine sq ?_
      refine rg [0, 20] [] [(2, 17)] (by kernel_rfl) ?_; intro κ ξ hκ hξ
      try simp (config := { decide := true }) only [go_sem, Nat.reduceMul, Nat.reduceAdd, c0, c1]
      repeat with_reducible refine And.intro (by first | assumption | omega | (simp; done) | (simp; omega) | (intro hg; simp (config := { decide := true }) only [go_sem, hg]; done) | (intro hg; simp (config := { decide := true }) only [go_sem, hg]; omega)) ?_
      refine hκ _ _ ?_; clear hκ hξ ξ κ
      refine cd (by rfl) (fun c2 => ?_) (fun c2 => ?_)
      · try simp only [go_sem] at c2
        refine sq ?_
        refine rg [2] [] [] (by kernel_rfl) ?_; intro κ ξ hκ hξ
        try simp (config := { decide := true }) only [go_sem, Nat.reduceMul, Nat.reduceAdd, c0, c1, c2]
        repeat with_reducible refine And.intro (by first | assumption | omega | (simp; done) | (simp; omega) | (intro hg; simp (config := { decide := true }) only [go_sem, hg]; done) | (intro hg; simp (config := { decide := true }) only [go_sem, hg]; omega)) ?_
        refine hκ _ _ ?_; clear hκ hξ ξ κ
        refine rt ?_
        refine retE ?_
        simp (config := { decide := true }) only [go_sem, resD, resV, c0, c1, c2]
        all_goals congr 1; all_goals unfold cls; all_goals repeat (first | rw [if_pos (by omega)] | rw [if_neg (by omega)])
      · try simp only [go_sem] at c2
        refine sk ?_
        refine sq ?_
        refine sq ?_
        refine rg [0, 22] [] [] (by kernel_rfl) ?_; intro κ ξ hκ hξ
        try simp (config := { decide := true }) only [go_sem, Nat.reduceMul, Nat.reduceAdd, c0, c1, c2]
        repeat with_reducible refine And.intro (by first | assumption | omega | (simp; done) | (simp; omega) | (intro hg; simp (config := { decide := true }) only [go_sem, hg]; done) | (intro hg; simp (config := { decide := true }) only [go_sem, hg]; omega)) ?_
        refine hκ _ _ ?_; clear hκ hξ ξ κ
        refine cd (by rfl) (fun c3 => ?_) (fun c3 => ?_)
        · try simp only [go_sem] at c3
          refine sq ?_
          refine rg [2] [] [] (by kernel_rfl) ?_; intro κ ξ hκ hξ
          try simp (config := { decide := true }) only [go_sem, Nat.reduceMul, Nat.reduceAdd, c0, c1, c2, c3]
          repeat with_reducible refine And.intro (by first | assumption | omega | (simp; done) | (simp; omega) | (intro hg; simp (config := { decide := true }) only [go_sem, hg]; done) | (intro hg; simp (config := { decide := true }) only [go_sem, hg]; omega)) ?_
          refine hκ _ _ ?_; clear hκ hξ ξ κ
          refine rt ?_
          refine retE ?_
          simp (config := { decide := true }) only [go_sem, resD, resV, c0, c1, c2, c3]
          all_goals congr 1; all_goals unfold cls; all_goals repeat (first | rw [if_pos (by omega)] | rw [if_neg (by omega)])
        · try simp only [go_sem] at c3
          refine sk ?_
          refine sq ?_
          refine sq ?_
          refine rg [0, 24] [] [] (by kernel_rfl) ?_; intro κ ξ hκ hξ
          try simp (config := { decide := true }) only [go_sem, Nat.reduceMul, Nat.reduceAdd, c0, c1, c2, c3]
          repeat with_reducible refine And.intro (by first | assumption | omega | (simp; done) | (simp; omega) | (intro hg; simp (config := { decide := true }) only [go_sem, hg]; done) | (intro hg; simp (config := { decide := true }) only [go_sem, hg]; omega)) ?_
          refine hκ _ _ ?_; clear hκ hξ ξ κ
          refine cd (by rfl) (fun c4 => ?_) (fun c4 => ?_)
          · try simp only [go_sem] at c4
            refine sq ?_
            refine rg [2] [] [] (by kernel_rfl) ?_; intro κ ξ hκ hξ
            try simp (config := { decide := true }) only [go_sem, Nat.reduceMul, Nat.reduceAdd, c0, c1, c2, c3, c4]
            repeat with_reducible refine And.intro (by first | assumption | omega | (simp; done) | (simp; omega) | (intro hg; simp (config := { decide := true }) only [go_sem, hg]; done) | (intro hg; simp (config := { decide := true }) only [go_sem, hg]; omega)) ?_
            refine hκ _ _ ?_; clear hκ hξ ξ κ
            refine rt ?_
            refine retE ?_
            simp (config := { decide := true }) only [go_sem, resD, resV, c0, c1, c2, c3, c4]
            all_goals congr 1; all_goals unfold cls; all_goals repeat (first | rw [if_pos (by omega)] | rw [if_neg (by omega)])
          · try simp only [go_sem] at c4
            refine sk ?_
            refine sq ?_
            refine sq ?_
            refine rg [30] [] [(2, 27)] (by kernel_rfl) ?_; intro κ ξ hκ hξ
            try simp (config := { decide := true }) only [go_sem, Nat.reduceMul, Nat.reduceAdd, c0, c1, c2, c3, c4]
            repeat with_reducible refine And.intro (by first | assumption | omega | (simp; done) | (simp; omega) | (intro hg; simp (config := { decide := true }) only [go_sem, hg]; done) | (intro hg; simp (config := { decide := true }) only [go_sem, hg]; omega)) ?_
            refine hκ _ _ ?_; clear hκ hξ ξ κ
            refine cd (by rfl) (fun c5 => ?_) (fun c5 => ?_)
            · try simp only [go_sem] at c5
              refine sq ?_
              refine rg [2] [] [] (by kernel_rfl) ?_; intro κ ξ hκ hξ
              try simp (config := { decide := true }) only [go_sem, Nat.reduceMul, Nat.reduceAdd, c0, c1, c2, c3, c4, c5]
              repeat with_reducible refine And.intro (by first | assumption | omega | (simp; done) | (simp; omega) | (intro hg; simp (config := { decide := true }) only [go_sem, hg]; done) | (intro hg; simp (config := { decide := true }) only [go_sem, hg]; omega)) ?_
              refine hκ _ _ ?_; clear hκ hξ ξ κ
              refine rt ?_
              refine retE ?_
              simp (config := { decide := true }) only [go_sem, resD, resV, c0, c1, c2, c3, c4, c5]
              all_goals congr 1; all_goals unfold cls; all_goals repeat (first | rw [if_pos (by omega)] | rw [if_neg (by omega)])
            · try simp only [go_sem] at c5
              refine sk ?_
              refine sq ?_
              refine rg [2] [] [] (by kernel_rfl) ?_; intro κ ξ hκ hξ
              try simp (config := { decide := true }) only [go_sem, Nat.reduceMul, Nat.reduceAdd, c0, c1, c2, c3, c4, c5]
              repeat with_reducible refine And.intro (by first | assumption | omega | (simp; done) | (simp; omega) | (intro hg; simp (config := { decide := true }) only [go_sem, hg]; done) | (intro hg; simp (config := { decide := true }) only [go_sem, hg]; omega)) ?_
              refine hκ _ _ ?_; clear hκ hξ ξ κ
              refine rt ?_
              refine retE ?_
              simp (config := { decide := true }) only [go_sem, resD, resV, c0, c1, c2, c3, c4, c5]
              all_goals congr 1; all_goals unfold cls; all_goals repeat (first | rw [if_pos (by omega)] | rw [if_neg (by omega)])

theorem rtv_w (s : List UInt8) : PCall Try.prog (.func 22) [.str s] (.bool (tv s)) := by
  refine PCall.ok fun hok => ?_
  simp only [okAll, D.ok, okRows, and_true, true_and, lim_eq, inR_i64', inR_i32', inR_u8', inR_u16', inR_u64'] at hok
  refine PCall.le ?_
  refine fn_ Try.func22 (by rfl) (by rfl) (rs := [.tmp 2]) (by rfl) (by simp [Try.f22]) ?_
  refine sq ?_
  refine rg [0] [] [] (by kernel_rfl) ?_; intro κ ξ hκ hξ
  try simp (config := { decide := true }) only [go_sem, Nat.reduceMul, Nat.reduceAdd]
  repeat with_reducible refine And.intro (by first | assumption | omega | (simp; done) | (simp; omega) | (intro hg; simp (config := { decide := true }) only [go_sem, hg]; done) | (intro hg; simp (config := { decide := true }) only [go_sem, hg]; omega)) ?_
  refine hκ _ _ ?_; clear hκ hξ ξ κ
  refine sq ?_
  refine sq ?_
  refine rg [0, 3] [] [] (by kernel_rfl) ?_; intro κ ξ hκ hξ
  try simp (config := { decide := true }) only [go_sem, Nat.reduceMul, Nat.reduceAdd]
  repeat with_reducible refine And.intro (by first | assumption | omega | (simp; done) | (simp; omega) | (intro hg; simp (config := { decide := true }) only [go_sem, hg]; done) | (intro hg; simp (config := { decide := true }) only [go_sem, hg]; omega)) ?_
  refine hκ _ _ ?_; clear hκ hξ ξ κ
  refine bl ?_
  refine lp (α := Nat) (fun i => mk [(0, .str s), (3, .int .i64 i)]) (fun _ => []) (fun i => i ≤ s.length ∧ ∀ j, j < i → cls (s.getD j 0).toNat ≠ 0) (fun i => s.length - i) 0 ⟨⟨by omega, by intro j hj; omega⟩, EnvLe.of_eq rfl, .refl _⟩ ?_
  rintro i ⟨hi, hj⟩
  refine sq ?_
  refine sq ?_
  refine rg [0, 3, 7] [] [] (by kernel_rfl) ?_; intro κ ξ hκ hξ
  try simp (config := { decide := true }) only [go_sem, Nat.reduceMul, Nat.reduceAdd]
  repeat with_reducible refine And.intro (by first | assumption | omega | (simp; done) | (simp; omega) | (intro hg; simp (config := { decide := true }) only [go_sem, hg]; done) | (intro hg; simp (config := { decide := true }) only [go_sem, hg]; omega)) ?_
  refine hκ _ _ ?_; clear hκ hξ ξ κ
  refine cd (by rfl) (fun c0 => ?_) (fun c0 => ?_)
  · try simp only [go_sem] at c0
    refine sk ?_
    refine sq ?_
    refine bl ?_
    refine sq ?_
    refine rg [0, 3, 14] [] [] (by kernel_rfl) ?_; intro κ ξ hκ hξ
    try simp (config := { decide := true }) only [go_sem, Nat.reduceMul, Nat.reduceAdd, c0]
    repeat with_reducible refine And.intro (by first | assumption | omega | (simp; done) | (simp; omega) | (intro hg; simp (config := { decide := true }) only [go_sem, hg]; done) | (intro hg; simp (config := { decide := true }) only [go_sem, hg]; omega)) ?_
    refine callF (rclass_w _) ?_
    try simp (config := { decide := true }) only [go_sem, Nat.reduceMul, Nat.reduceAdd, c0]
    repeat with_reducible refine And.intro (by first | assumption | omega | (simp; done) | (simp; omega) | (intro hg; simp (config := { decide := true }) only [go_sem, hg]; done) | (intro hg; simp (config := { decide := true }) only [go_sem, hg]; omega)) ?_
    refine hκ _ _ ?_; clear hκ hξ ξ κ
    refine cd (by rfl) (fun c1 => ?_) (fun c1 => ?_)
    · try simp only [go_sem] at c1
      refine sq ?_
      refine rg [2] [] [] (by kernel_rfl) ?_; intro κ ξ hκ hξ
      try simp (config := { decide := true }) only [go_sem, Nat.reduceMul, Nat.reduceAdd, c0, c1]
      repeat with_reducible refine And.intro (by first | assumption | omega | (simp; done) | (simp; omega) | (intro hg; simp (config := { decide := true }) only [go_sem, hg]; done) | (intro hg; simp (config := { decide := true }) only [go_sem, hg]; omega)) ?_
      refine hκ _ _ ?_; clear hκ hξ ξ κ
      refine rt ?_
      refine retE ?_
      simp (config := { decide := true }) only [go_sem, resD, resV, c0, c1]
      congr 1
      unfold tv
      symm
      rw [decide_eq_false_iff_not]
      rintro ⟨h, _⟩
      refine h (s.getD i 0) ?_ (by assumption)
      rw [List.getD_eq_getElem?_getD, List.getElem?_eq_getElem (by omega)]
      exact List.getElem_mem _
    · try simp only [go_sem] at c1
      refine sk ?_
      refine rg [0, 3] [] [] (by kernel_rfl) ?_; intro κ ξ hκ hξ
      try simp (config := { decide := true }) only [go_sem, Nat.reduceMul, Nat.reduceAdd, c0, c1]
      repeat with_reducible refine And.intro (by first | assumption | omega | (simp; done) | (simp; omega) | (intro hg; simp (config := { decide := true }) only [go_sem, hg]; done) | (intro hg; simp (config := { decide := true }) only [go_sem, hg]; omega)) ?_
      refine hκ _ _ ?_; clear hκ hξ ξ κ
      refine ⟨i + 1, ⟨⟨by omega, ?_⟩, by omega⟩, EnvLe.of_eq (by rw [w64 (by omega)]; rfl), .refl _⟩
      intro j h
      rcases Nat.lt_succ_iff_lt_or_eq.1 h with h | rfl
      · exact hj j h
      · assumption
  · try simp only [go_sem] at c0
    refine ex ?_
    refine sq ?_
    refine rg [2] [] [] (by kernel_rfl) ?_; intro κ ξ hκ hξ
    try simp (config := { decide := true }) only [go_sem, Nat.reduceMul, Nat.reduceAdd, c0]
    repeat with_reducible refine And.intro (by first | assumption | omega | (simp; done) | (simp; omega) | (intro hg; simp (config := { decide := true }) only [go_sem, hg]; done) | (intro hg; simp (config := { decide := true }) only [go_sem, hg]; omega)) ?_
    refine hκ _ _ ?_; clear hκ hξ ξ κ
    refine rt ?_
    refine retE ?_
    simp (config := { decide := true }) only [go_sem, resD, resV, c0]
    congr 1
    unfold tv
    rw [decide_eq_decide]
    have e : i = s.length := by omega
    subst e
    refine ⟨fun h => ⟨fun c hc => ?_, by omega⟩, fun h => by omega⟩
    obtain ⟨j, hj', rfl⟩ := List.getElem_of_mem hc
    simpa [hj'] using hj j hj'

theorem rglyph_w (gs : List Gl) (ks : List Kn) (tg tk : Tok) (b : Int) : PCall Try.prog (.func 27) [.ag [.sl 2 (gs.map grow) tg, .sl 3 (ks.map krow) tk], .int .u8 b] (.int .i64 (gidx gs b)) := by
  refine PCall.ok fun hok => ?_
  simp only [okAll, D.ok, okRows, and_true, true_and, lim_eq, inR_i64', inR_i32', inR_u8', inR_u16', inR_u64'] at hok
  obtain ⟨⟨⟨hg, hgr⟩, hk, hkr⟩, hb⟩ := hok; rw [List.length_map] at hg hk
  refine PCall.le ?_
  refine fn_ Try.func27 (by rfl) (by rfl) (rs := [.tmp 4]) (by rfl) (by simp [Try.f27]) ?_
  refine sq ?_
  refine rg [1, 2] [2] [] (by kernel_rfl) ?_; intro κ ξ hκ hξ
  try simp (config := { decide := true }) only [go_sem, Nat.reduceMul, Nat.reduceAdd]
  repeat with_reducible refine And.intro (by first | assumption | omega | (simp; done) | (simp; omega) | (intro hg; simp (config := { decide := true }) only [go_sem, hg]; done) | (intro hg; simp (config := { decide := true }) only [go_sem, hg]; omega)) ?_
  refine hκ _ _ ?_; clear hκ hξ ξ κ
  refine sq ?_
  refine sq ?_
  refine rg [1, 2, 5] [] [] (by kernel_rfl) ?_; intro κ ξ hκ hξ
  try simp (config := { decide := true }) only [go_sem, Nat.reduceMul, Nat.reduceAdd]
  repeat with_reducible refine And.intro (by first | assumption | omega | (simp; done) | (simp; omega) | (intro hg; simp (config := { decide := true }) only [go_sem, hg]; done) | (intro hg; simp (config := { decide := true }) only [go_sem, hg]; omega)) ?_
  refine hκ _ _ ?_; clear hκ hξ ξ κ
  refine bl ?_
  refine lp (α := Nat) (fun i => mk [(1, .int .u8 b), (2, .el [.sl 2 (gs.map grow) tg, .sl 3 (ks.map krow) tk]), (5, .int .i64 i)]) (fun _ => []) (fun i => i ≤ gs.length ∧ ∀ j, j < i → (gat gs j).1 ≠ b) (fun i => gs.length - i) 0 ⟨⟨by omega, by intro j hj; omega⟩, EnvLe.of_eq rfl, .refl _⟩ ?_
  rintro i ⟨hi, hj⟩
  refine sq ?_
  refine sq ?_
  refine rg [1, 2, 5, 10] [] [] (by kernel_rfl) ?_; intro κ ξ hκ hξ
  try simp (config := { decide := true }) only [go_sem, Nat.reduceMul, Nat.reduceAdd]
  repeat with_reducible refine And.intro (by first | assumption | omega | (simp; done) | (simp; omega) | (intro hg; simp (config := { decide := true }) only [go_sem, hg]; done) | (intro hg; simp (config := { decide := true }) only [go_sem, hg]; omega)) ?_
  refine hκ _ _ ?_; clear hκ hξ ξ κ
  refine cd (by rfl) (fun c0 => ?_) (fun c0 => ?_)
  · try simp only [go_sem] at c0
    refine sk ?_
    refine sq ?_
    refine bl ?_
    refine sq ?_
    refine rg [1, 2, 5, 20] [] [] (by kernel_rfl) ?_; intro κ ξ hκ hξ
    try simp (config := { decide := true }) only [go_sem, Nat.reduceMul, Nat.reduceAdd, c0]
    repeat with_reducible refine And.intro (by first | assumption | omega | (simp; done) | (simp; omega) | (intro hg; simp (config := { decide := true }) only [go_sem, hg]; done) | (intro hg; simp (config := { decide := true }) only [go_sem, hg]; omega)) ?_
    refine hκ _ _ ?_; clear hκ hξ ξ κ
    refine cd (by rfl) (fun c1 => ?_) (fun c1 => ?_)
    · try simp only [go_sem] at c1
      refine sq ?_
      refine rg [4] [] [] (by kernel_rfl) ?_; intro κ ξ hκ hξ
      try simp (config := { decide := true }) only [go_sem, Nat.reduceMul, Nat.reduceAdd, c0, c1]
      repeat with_reducible refine And.intro (by first | assumption | omega | (simp; done) | (simp; omega) | (intro hg; simp (config := { decide := true }) only [go_sem, hg]; done) | (intro hg; simp (config := { decide := true }) only [go_sem, hg]; omega)) ?_
      refine hκ _ _ ?_; clear hκ hξ ξ κ
      refine rt ?_
      refine retE ?_
      simp (config := { decide := true }) only [go_sem, resD, resV, c0, c1]
      congr 1
      rw [gidx_some (by omega) (by assumption) hj]
    · try simp only [go_sem] at c1
      refine sk ?_
      refine rg [1, 2, 5] [] [] (by kernel_rfl) ?_; intro κ ξ hκ hξ
      try simp (config := { decide := true }) only [go_sem, Nat.reduceMul, Nat.reduceAdd, c0, c1]
      repeat with_reducible refine And.intro (by first | assumption | omega | (simp; done) | (simp; omega) | (intro hg; simp (config := { decide := true }) only [go_sem, hg]; done) | (intro hg; simp (config := { decide := true }) only [go_sem, hg]; omega)) ?_
      refine hκ _ _ ?_; clear hκ hξ ξ κ
      refine ⟨i + 1, ⟨⟨by omega, ?_⟩, by omega⟩, EnvLe.of_eq (by rw [w64 (by omega)]; rfl), .refl _⟩
      intro j h
      rcases Nat.lt_succ_iff_lt_or_eq.1 h with h | rfl
      · exact hj j h
      · assumption
  · try simp only [go_sem] at c0
    refine ex ?_
    refine sq ?_
    refine rg [4] [] [] (by kernel_rfl) ?_; intro κ ξ hκ hξ
    try simp (config := { decide := true }) only [go_sem, Nat.reduceMul, Nat.reduceAdd, c0]
    repeat with_reducible refine And.intro (by first | assumption | omega | (simp; done) | (simp; omega) | (intro hg; simp (config := { decide := true }) only [go_sem, hg]; done) | (intro hg; simp (config := { decide := true }) only [go_sem, hg]; omega)) ?_
    refine hκ _ _ ?_; clear hκ hξ ξ κ
    refine rt ?_
    refine retE ?_
    simp (config := { decide := true }) only [go_sem, resD, resV, c0]
    congr 1
    rw [gidx_none fun j h => hj j (by omega)]

theorem rkern_w (gs : List Gl) (ks : List Kn) (tg tk : Tok) (a b : Int) : PCall Try.prog (.func 21) [.ag [.sl 2 (gs.map grow) tg, .sl 3 (ks.map krow) tk], .int .u8 a, .int .u8 b] (.int .i64 (kfind ks a b)) := by
  refine PCall.ok fun hok => ?_
  simp only [okAll, D.ok, okRows, and_true, true_and, lim_eq, inR_i64', inR_i32', inR_u8', inR_u16', inR_u64'] at hok
  obtain ⟨⟨⟨hg, hgr⟩, hk, hkr⟩, hb⟩ := hok; rw [List.length_map] at hg hk
  refine PCall.le ?_
  refine fn_ Try.func21 (by rfl) (by rfl) (rs := [.tmp 6]) (by rfl) (by simp [Try.f21]) ?_
  refine sq ?_
  refine rg [1, 2, 3] [3] [] (by kernel_rfl) ?_; intro κ ξ hκ hξ
  try simp (config := { decide := true }) only [go_sem, Nat.reduceMul, Nat.reduceAdd]
  repeat with_reducible refine And.intro (by first | assumption | omega | (simp; done) | (simp; omega) | (intro hg; simp (config := { decide := true }) only [go_sem, hg]; done) | (intro hg; simp (config := { decide := true }) only [go_sem, hg]; omega)) ?_
  refine hκ _ _ ?_; clear hκ hξ ξ κ
  refine sq ?_
  refine sq ?_
  refine rg [1, 2, 3, 7] [] [] (by kernel_rfl) ?_; intro κ ξ hκ hξ
  try simp (config := { decide := true }) only [go_sem, Nat.reduceMul, Nat.reduceAdd]
  repeat with_reducible refine And.intro (by first | assumption | omega | (simp; done) | (simp; omega) | (intro hg; simp (config := { decide := true }) only [go_sem, hg]; done) | (intro hg; simp (config := { decide := true }) only [go_sem, hg]; omega)) ?_
  refine hκ _ _ ?_; clear hκ hξ ξ κ
  refine bl ?_
  refine lp (α := Nat) (fun i => mk [(1, .int .u8 a), (2, .int .u8 b), (3, .el [.sl 2 (gs.map grow) tg, .sl 3 (ks.map krow) tk]), (7, .int .i64 i)]) (fun _ => []) (fun i => i ≤ ks.length ∧ ∀ j, j < i → ¬ ((kat ks j).1 = a ∧ (kat ks j).2.1 = b)) (fun i => ks.length - i) 0 ⟨⟨by omega, by intro j hj; omega⟩, EnvLe.of_eq rfl, .refl _⟩ ?_
  rintro i ⟨hi, hj⟩
  refine sq ?_
  refine sq ?_
  refine rg [1, 2, 3, 7, 12] [] [] (by kernel_rfl) ?_; intro κ ξ hκ hξ
  try simp (config := { decide := true }) only [go_sem, Nat.reduceMul, Nat.reduceAdd]
  repeat with_reducible refine And.intro (by first | assumption | omega | (simp; done) | (simp; omega) | (intro hg; simp (config := { decide := true }) only [go_sem, hg]; done) | (intro hg; simp (config := { decide := true }) only [go_sem, hg]; omega)) ?_
  refine hκ _ _ ?_; clear hκ hξ ξ κ
  refine cd (by rfl) (fun c0 => ?_) (fun c0 => ?_)
  · try simp only [go_sem] at c0
    refine sk ?_
    refine sq ?_
    refine bl ?_
    refine sq ?_
    refine rg [1, 2, 3, 7, 32] [] [(8, 23)] (by kernel_rfl) ?_; intro κ ξ hκ hξ
    try simp (config := { decide := true }) only [go_sem, Nat.reduceMul, Nat.reduceAdd, c0]
    repeat with_reducible refine And.intro (by first | assumption | omega | (simp; done) | (simp; omega) | (intro hg; simp (config := { decide := true }) only [go_sem, hg]; done) | (intro hg; simp (config := { decide := true }) only [go_sem, hg]; omega)) ?_
    refine hκ _ _ ?_; clear hκ hξ ξ κ
    refine cd (by rfl) (fun c1 => ?_) (fun c1 => ?_)
    · try simp only [go_sem] at c1
      refine sq ?_
      refine rg [6] [] [] (by kernel_rfl) ?_; intro κ ξ hκ hξ
      try simp (config := { decide := true }) only [go_sem, Nat.reduceMul, Nat.reduceAdd, c0, c1]
      repeat with_reducible refine And.intro (by first | assumption | omega | (simp; done) | (simp; omega) | (intro hg; simp (config := { decide := true }) only [go_sem, hg]; done) | (intro hg; simp (config := { decide := true }) only [go_sem, hg]; omega)) ?_
      refine hκ _ _ ?_; clear hκ hξ ξ κ
      refine rt ?_
      refine retE ?_
      simp (config := { decide := true }) only [go_sem, resD, resV, c0, c1]
      congr 1
      rw [kfind_some (by omega) (by omega) hj]
    · try simp only [go_sem] at c1
      refine sk ?_
      refine rg [1, 2, 3, 7] [] [] (by kernel_rfl) ?_; intro κ ξ hκ hξ
      try simp (config := { decide := true }) only [go_sem, Nat.reduceMul, Nat.reduceAdd, c0, c1]
      repeat with_reducible refine And.intro (by first | assumption | omega | (simp; done) | (simp; omega) | (intro hg; simp (config := { decide := true }) only [go_sem, hg]; done) | (intro hg; simp (config := { decide := true }) only [go_sem, hg]; omega)) ?_
      refine hκ _ _ ?_; clear hκ hξ ξ κ
      refine ⟨i + 1, ⟨⟨by omega, ?_⟩, by omega⟩, EnvLe.of_eq (by rw [w64 (by omega)]; rfl), .refl _⟩
      intro j h
      rcases Nat.lt_succ_iff_lt_or_eq.1 h with h | rfl
      · exact hj j h
      · omega
  · try simp only [go_sem] at c0
    refine ex ?_
    refine sq ?_
    refine rg [6] [] [] (by kernel_rfl) ?_; intro κ ξ hκ hξ
    try simp (config := { decide := true }) only [go_sem, Nat.reduceMul, Nat.reduceAdd, c0]
    repeat with_reducible refine And.intro (by first | assumption | omega | (simp; done) | (simp; omega) | (intro hg; simp (config := { decide := true }) only [go_sem, hg]; done) | (intro hg; simp (config := { decide := true }) only [go_sem, hg]; omega)) ?_
    refine hκ _ _ ?_; clear hκ hξ ξ κ
    refine rt ?_
    refine retE ?_
    simp (config := { decide := true }) only [go_sem, resD, resV, c0]
    congr 1
    rw [kfind_none fun j h => hj j (by omega)]

theorem isnan_w (x : Int) : PCall Try.prog (.func 40) [.int .u8 x] (.bool false) := by
  refine PCall.le ?_
  refine fn_ Try.func40 (by rfl) (by rfl) (rs := [.tmp 2]) (by rfl) (by simp [Try.f40]) ?_
  refine sq ?_
  refine rg [0] [] [] (by kernel_rfl) ?_; intro κ ξ hκ hξ
  try simp (config := { decide := true }) only [go_sem, Nat.reduceMul, Nat.reduceAdd]
  repeat with_reducible refine And.intro (by first | assumption | omega | (simp; done) | (simp; omega) | (intro hg; simp (config := { decide := true }) only [go_sem, hg]; done) | (intro hg; simp (config := { decide := true }) only [go_sem, hg]; omega)) ?_
  refine hκ _ _ ?_; clear hκ hξ ξ κ
  refine sq ?_
  refine rg [2] [] [] (by kernel_rfl) ?_; intro κ ξ hκ hξ
  try simp (config := { decide := true }) only [go_sem, Nat.reduceMul, Nat.reduceAdd]
  repeat with_reducible refine And.intro (by first | assumption | omega | (simp; done) | (simp; omega) | (intro hg; simp (config := { decide := true }) only [go_sem, hg]; done) | (intro hg; simp (config := { decide := true }) only [go_sem, hg]; omega)) ?_
  refine hκ _ _ ?_; clear hκ hξ ξ κ
  refine rt ?_
  refine retE ?_
  simp (config := { decide := true }) only [go_sem, resD, resV]
  

theorem cmp_w (x y : Int) : PCall Try.prog (.func 35) [.int .u8 x, .int .u8 y] (.int .i64 (icmp x y)) := by
  refine PCall.le ?_
  refine fn_ Try.func35 (by rfl) (by rfl) (rs := [.tmp 4]) (by rfl) (by simp [Try.f35]) ?_
  refine sq ?_
  refine rg [0, 1] [] [] (by kernel_rfl) ?_; intro κ ξ hκ hξ
  try simp (config := { decide := true }) only [go_sem, Nat.reduceMul, Nat.reduceAdd]
  repeat with_reducible refine And.intro (by first | assumption | omega | (simp; done) | (simp; omega) | (intro hg; simp (config := { decide := true }) only [go_sem, hg]; done) | (intro hg; simp (config := { decide := true }) only [go_sem, hg]; omega)) ?_
  refine hκ _ _ ?_; clear hκ hξ ξ κ
  refine sq ?_
  refine rg [0, 1, 5] [] [] (by kernel_rfl) ?_; intro κ ξ hκ hξ
  try simp (config := { decide := true }) only [go_sem, Nat.reduceMul, Nat.reduceAdd]
  repeat with_reducible refine And.intro (by first | assumption | omega | (simp; done) | (simp; omega) | (intro hg; simp (config := { decide := true }) only [go_sem, hg]; done) | (intro hg; simp (config := { decide := true }) only [go_sem, hg]; omega)) ?_
  refine callF (isnan_w _) ?_
  try simp (config := { decide := true }) only [go_sem, Nat.reduceMul, Nat.reduceAdd]
  repeat with_reducible refine And.intro (by first | assumption | omega | (simp; done) | (simp; omega) | (intro hg; simp (config := { decide := true }) only [go_sem, hg]; done) | (intro hg; simp (config := { decide := true }) only [go_sem, hg]; omega)) ?_
  refine hκ _ _ ?_; clear hκ hξ ξ κ
  refine sq ?_
  refine rg [0, 1, 5, 6] [] [] (by kernel_rfl) ?_; intro κ ξ hκ hξ
  try simp (config := { decide := true }) only [go_sem, Nat.reduceMul, Nat.reduceAdd]
  repeat with_reducible refine And.intro (by first | assumption | omega | (simp; done) | (simp; omega) | (intro hg; simp (config := { decide := true }) only [go_sem, hg]; done) | (intro hg; simp (config := { decide := true }) only [go_sem, hg]; omega)) ?_
  refine callF (isnan_w _) ?_
  try simp (config := { decide := true }) only [go_sem, Nat.reduceMul, Nat.reduceAdd]
  repeat with_reducible refine And.intro (by first | assumption | omega | (simp; done) | (simp; omega) | (intro hg; simp (config := { decide := true }) only [go_sem, hg]; done) | (intro hg; simp (config := { decide := true }) only [go_sem, hg]; omega)) ?_
  refine hκ _ _ ?_; clear hκ hξ ξ κ
  refine sq ?_
  refine sq ?_
  refine rg [0, 1, 6, 11] [] [] (by kernel_rfl) ?_; intro κ ξ hκ hξ
  try simp (config := { decide := true }) only [go_sem, Nat.reduceMul, Nat.reduceAdd]
  repeat with_reducible refine And.intro (by first | assumption | omega | (simp; done) | (simp; omega) | (intro hg; simp (config := { decide := true }) only [go_sem, hg]; done) | (intro hg; simp (config := { decide := true }) only [go_sem, hg]; omega)) ?_
  refine hκ _ _ ?_; clear hκ hξ ξ κ
  refine cdf (by rfl) ?_
  refine sk ?_
  refine sq ?_
  refine sq ?_
  refine rg [0, 1, 13] [] [] (by kernel_rfl) ?_; intro κ ξ hκ hξ
  try simp (config := { decide := true }) only [go_sem, Nat.reduceMul, Nat.reduceAdd]
  repeat with_reducible refine And.intro (by first | assumption | omega | (simp; done) | (simp; omega) | (intro hg; simp (config := { decide := true }) only [go_sem, hg]; done) | (intro hg; simp (config := { decide := true }) only [go_sem, hg]; omega)) ?_
  refine hκ _ _ ?_; clear hκ hξ ξ κ
  refine cdf (by rfl) ?_
  refine sk ?_
  refine sq ?_
  refine sq ?_
  refine rg [0, 1, 16] [] [] (by kernel_rfl) ?_; intro κ ξ hκ hξ
  try simp (config := { decide := true }) only [go_sem, Nat.reduceMul, Nat.reduceAdd]
  repeat with_reducible refine And.intro (by first | assumption | omega | (simp; done) | (simp; omega) | (intro hg; simp (config := { decide := true }) only [go_sem, hg]; done) | (intro hg; simp (config := { decide := true }) only [go_sem, hg]; omega)) ?_
  refine hκ _ _ ?_; clear hκ hξ ξ κ
  refine cd (by rfl) (fun c0 => ?_) (fun c0 => ?_)
  · try simp only [go_sem] at c0
    refine sq ?_
    refine rg [4] [] [] (by kernel_rfl) ?_; intro κ ξ hκ hξ
    try simp (config := { decide := true }) only [go_sem, Nat.reduceMul, Nat.reduceAdd, c0]
    repeat with_reducible refine And.intro (by first | assumption | omega | (simp; done) | (simp; omega) | (intro hg; simp (config := { decide := true }) only [go_sem, hg]; done) | (intro hg; simp (config := { decide := true }) only [go_sem, hg]; omega)) ?_
    refine hκ _ _ ?_; clear hκ hξ ξ κ
    refine rt ?_
    refine retE ?_
    simp (config := { decide := true }) only [go_sem, resD, resV, c0]
    all_goals congr 1
    all_goals unfold icmp
    all_goals (repeat (first | rw [if_pos (by omega)] | rw [if_neg (by omega)]))
  · try simp only [go_sem] at c0
    refine sk ?_
    refine sq ?_
    refine sq ?_
    refine rg [19] [] [] (by kernel_rfl) ?_; intro κ ξ hκ hξ
    try simp (config := { decide := true }) only [go_sem, Nat.reduceMul, Nat.reduceAdd, c0]
    repeat with_reducible refine And.intro (by first | assumption | omega | (simp; done) | (simp; omega) | (intro hg; simp (config := { decide := true }) only [go_sem, hg]; done) | (intro hg; simp (config := { decide := true }) only [go_sem, hg]; omega)) ?_
    refine hκ _ _ ?_; clear hκ hξ ξ κ
    refine cd (by rfl) (fun c1 => ?_) (fun c1 => ?_)
    · try simp only [go_sem] at c1
      refine sq ?_
      refine rg [4] [] [] (by kernel_rfl) ?_; intro κ ξ hκ hξ
      try simp (config := { decide := true }) only [go_sem, Nat.reduceMul, Nat.reduceAdd, c0, c1]
      repeat with_reducible refine And.intro (by first | assumption | omega | (simp; done) | (simp; omega) | (intro hg; simp (config := { decide := true }) only [go_sem, hg]; done) | (intro hg; simp (config := { decide := true }) only [go_sem, hg]; omega)) ?_
      refine hκ _ _ ?_; clear hκ hξ ξ κ
      refine rt ?_
      refine retE ?_
      simp (config := { decide := true }) only [go_sem, resD, resV, c0, c1]
      all_goals congr 1
      all_goals unfold icmp
      all_goals (repeat (first | rw [if_pos (by omega)] | rw [if_neg (by omega)]))
    · try simp only [go_sem] at c1
      refine sk ?_
      refine sq ?_
      refine rg [4] [] [] (by kernel_rfl) ?_; intro κ ξ hκ hξ
      try simp (config := { decide := true }) only [go_sem, Nat.reduceMul, Nat.reduceAdd, c0, c1]
      repeat with_reducible refine And.intro (by first | assumption | omega | (simp; done) | (simp; omega) | (intro hg; simp (config := { decide := true }) only [go_sem, hg]; done) | (intro hg; simp (config := { decide := true }) only [go_sem, hg]; omega)) ?_
      refine hκ _ _ ?_; clear hκ hξ ξ κ
      refine rt ?_
      refine retE ?_
      simp (config := { decide := true }) only [go_sem, resD, resV, c0, c1]
      all_goals congr 1
      all_goals unfold icmp
      all_goals (repeat (first | rw [if_pos (by omega)] | rw [if_neg (by omega)]))

theorem or_w (vs : List Int) (t : Tok) : PCall Try.prog (.func 36) [.sl 1 (vs.map irow) t] (.int .i64 (ior vs)) := by
  refine PCall.ok fun hok => ?_
  simp only [okAll, D.ok, okRows, and_true, true_and, lim_eq, inR_i64', inR_i32', inR_u8', inR_u16', inR_u64'] at hok
  rw [List.length_map] at hok; obtain ⟨hl, hr⟩ := hok
  refine PCall.le ?_
  refine fn_ Try.func36 (by rfl) (by rfl) (rs := [.tmp 2]) (by rfl) (by simp [Try.f36]) ?_
  refine sq ?_
  refine rg [0] [] [] (by kernel_rfl) ?_; intro κ ξ hκ hξ
  try simp (config := { decide := true }) only [go_sem, Nat.reduceMul, Nat.reduceAdd]
  repeat with_reducible refine And.intro (by first | assumption | omega | (simp; done) | (simp; omega) | (intro hg; simp (config := { decide := true }) only [go_sem, hg]; done) | (intro hg; simp (config := { decide := true }) only [go_sem, hg]; omega)) ?_
  refine hκ _ _ ?_; clear hκ hξ ξ κ
  refine sq ?_
  refine rg [0, 3] [] [] (by kernel_rfl) ?_; intro κ ξ hκ hξ
  try simp (config := { decide := true }) only [go_sem, Nat.reduceMul, Nat.reduceAdd]
  repeat with_reducible refine And.intro (by first | assumption | omega | (simp; done) | (simp; omega) | (intro hg; simp (config := { decide := true }) only [go_sem, hg]; done) | (intro hg; simp (config := { decide := true }) only [go_sem, hg]; omega)) ?_
  refine hκ _ _ ?_; clear hκ hξ ξ κ
  refine sq ?_
  refine sq ?_
  refine rg [3, 6, 7, 8] [] [] (by kernel_rfl) ?_; intro κ ξ hκ hξ
  try simp (config := { decide := true }) only [go_sem, Nat.reduceMul, Nat.reduceAdd]
  repeat with_reducible refine And.intro (by first | assumption | omega | (simp; done) | (simp; omega) | (intro hg; simp (config := { decide := true }) only [go_sem, hg]; done) | (intro hg; simp (config := { decide := true }) only [go_sem, hg]; omega)) ?_
  refine hκ _ _ ?_; clear hκ hξ ξ κ
  refine bl ?_
  refine lp (α := Nat) (fun i => mk [(3, .int .i64 0), (6, .sl 1 (vs.map irow) t), (7, .int .i64 vs.length), (8, .int .i64 i)]) (fun _ => []) (fun i => i ≤ vs.length ∧ ∀ j, j < i → vs.getD j 0 = 0) (fun i => vs.length - i) 0 ⟨⟨by omega, by intro j hj; omega⟩, EnvLe.of_eq rfl, .refl _⟩ ?_
  rintro i ⟨hi, hj⟩
  refine sq ?_
  refine rg [3, 6, 7, 8, 9] [] [] (by kernel_rfl) ?_; intro κ ξ hκ hξ
  try simp (config := { decide := true }) only [go_sem, Nat.reduceMul, Nat.reduceAdd]
  repeat with_reducible refine And.intro (by first | assumption | omega | (simp; done) | (simp; omega) | (intro hg; simp (config := { decide := true }) only [go_sem, hg]; done) | (intro hg; simp (config := { decide := true }) only [go_sem, hg]; omega)) ?_
  refine hκ _ _ ?_; clear hκ hξ ξ κ
  refine sq ?_
  refine cd (by rfl) (fun c0 => ?_) (fun c0 => ?_)
  · try simp only [go_sem] at c0
    refine sk ?_
    refine sq ?_
    refine bl ?_
    refine sq ?_
    refine rg [3, 5, 6, 7, 8] [] [] (by kernel_rfl) ?_; intro κ ξ hκ hξ
    try simp (config := { decide := true }) only [go_sem, Nat.reduceMul, Nat.reduceAdd, c0]
    repeat with_reducible refine And.intro (by first | assumption | omega | (simp; done) | (simp; omega) | (intro hg; simp (config := { decide := true }) only [go_sem, hg]; done) | (intro hg; simp (config := { decide := true }) only [go_sem, hg]; omega)) ?_
    refine hκ _ _ ?_; clear hκ hξ ξ κ
    refine sq ?_
    refine rg [3, 5, 6, 7, 8, 14] [] [] (by kernel_rfl) ?_; intro κ ξ hκ hξ
    try simp (config := { decide := true }) only [go_sem, Nat.reduceMul, Nat.reduceAdd, c0]
    repeat with_reducible refine And.intro (by first | assumption | omega | (simp; done) | (simp; omega) | (intro hg; simp (config := { decide := true }) only [go_sem, hg]; done) | (intro hg; simp (config := { decide := true }) only [go_sem, hg]; omega)) ?_
    refine hκ _ _ ?_; clear hκ hξ ξ κ
    refine cd (by rfl) (fun c1 => ?_) (fun c1 => ?_)
    · try simp only [go_sem] at c1
      refine sq ?_
      refine rg [2] [] [] (by kernel_rfl) ?_; intro κ ξ hκ hξ
      try simp (config := { decide := true }) only [go_sem, Nat.reduceMul, Nat.reduceAdd, c0, c1]
      repeat with_reducible refine And.intro (by first | assumption | omega | (simp; done) | (simp; omega) | (intro hg; simp (config := { decide := true }) only [go_sem, hg]; done) | (intro hg; simp (config := { decide := true }) only [go_sem, hg]; omega)) ?_
      refine hκ _ _ ?_; clear hκ hξ ξ κ
      refine rt ?_
      refine retE ?_
      simp (config := { decide := true }) only [go_sem, resD, resV, c0, c1]
      all_goals congr 1
      all_goals rw [ior_some (by omega) (by assumption) hj]
    · try simp only [go_sem] at c1
      refine sk ?_
      refine rg [3, 6, 7, 8] [] [] (by kernel_rfl) ?_; intro κ ξ hκ hξ
      try simp (config := { decide := true }) only [go_sem, Nat.reduceMul, Nat.reduceAdd, c0, c1]
      repeat with_reducible refine And.intro (by first | assumption | omega | (simp; done) | (simp; omega) | (intro hg; simp (config := { decide := true }) only [go_sem, hg]; done) | (intro hg; simp (config := { decide := true }) only [go_sem, hg]; omega)) ?_
      refine hκ _ _ ?_; clear hκ hξ ξ κ
      refine ⟨i + 1, ⟨⟨by omega, ?_⟩, by omega⟩, EnvLe.of_eq (by rw [w64 (by omega)]; rfl), .refl _⟩
      intro j h
      rcases Nat.lt_succ_iff_lt_or_eq.1 h with h | rfl
      · exact hj j h
      · assumption
  · try simp only [go_sem] at c0
    refine ex ?_
    refine sq ?_
    refine rg [2] [] [] (by kernel_rfl) ?_; intro κ ξ hκ hξ
    try simp (config := { decide := true }) only [go_sem, Nat.reduceMul, Nat.reduceAdd, c0]
    repeat with_reducible refine And.intro (by first | assumption | omega | (simp; done) | (simp; omega) | (intro hg; simp (config := { decide := true }) only [go_sem, hg]; done) | (intro hg; simp (config := { decide := true }) only [go_sem, hg]; omega)) ?_
    refine hκ _ _ ?_; clear hκ hξ ξ κ
    refine rt ?_
    refine retE ?_
    simp (config := { decide := true }) only [go_sem, resD, resV, c0]
    all_goals congr 1
    all_goals rw [ior_none fun j h => hj j (by omega)]

theorem gcmp_w (g : Gl) (b : Int) : PCall Try.prog (.func 34) [.ag (grow g), .int .u8 b] (.int .i64 (icmp g.1 b)) := by
  refine PCall.le ?_
  refine fn_ Try.func34 (by rfl) (by rfl) (rs := [.tmp 4]) (by rfl) (by simp [Try.f34]) ?_
  refine sq ?_
  refine rg [1, 2] [2] [] (by kernel_rfl) ?_; intro κ ξ hκ hξ
  try simp (config := { decide := true }) only [go_sem, Nat.reduceMul, Nat.reduceAdd]
  repeat with_reducible refine And.intro (by first | assumption | omega | (simp; done) | (simp; omega) | (intro hg; simp (config := { decide := true }) only [go_sem, hg]; done) | (intro hg; simp (config := { decide := true }) only [go_sem, hg]; omega)) ?_
  refine hκ _ _ ?_; clear hκ hξ ξ κ
  refine sq ?_
  refine rg [4] [] [] (by kernel_rfl) ?_; intro κ ξ hκ hξ
  try simp (config := { decide := true }) only [go_sem, Nat.reduceMul, Nat.reduceAdd]
  repeat with_reducible refine And.intro (by first | assumption | omega | (simp; done) | (simp; omega) | (intro hg; simp (config := { decide := true }) only [go_sem, hg]; done) | (intro hg; simp (config := { decide := true }) only [go_sem, hg]; omega)) ?_
  refine callF (cmp_w _ _) ?_
  try simp (config := { decide := true }) only [go_sem, Nat.reduceMul, Nat.reduceAdd]
  repeat with_reducible refine And.intro (by first | assumption | omega | (simp; done) | (simp; omega) | (intro hg; simp (config := { decide := true }) only [go_sem, hg]; done) | (intro hg; simp (config := { decide := true }) only [go_sem, hg]; omega)) ?_
  refine hκ _ _ ?_; clear hκ hξ ξ κ
  refine rt ?_
  refine retE ?_
  simp (config := { decide := true }) only [go_sem, resD, resV]
  

theorem kcmp_w (k : Kn) (p : Int × Int) : PCall Try.prog (.func 28) [.ag (krow k), .ag (prow p)] (.int .i64 (kcmp k p)) := by
  refine PCall.le ?_
  refine fn_ Try.func28 (by rfl) (by rfl) (rs := [.tmp 4]) (by rfl) (by simp [Try.f28]) ?_
  refine sq ?_
  refine rg [2, 3] [2, 3] [] (by kernel_rfl) ?_; intro κ ξ hκ hξ
  try simp (config := { decide := true }) only [go_sem, Nat.reduceMul, Nat.reduceAdd]
  repeat with_reducible refine And.intro (by first | assumption | omega | (simp; done) | (simp; omega) | (intro hg; simp (config := { decide := true }) only [go_sem, hg]; done) | (intro hg; simp (config := { decide := true }) only [go_sem, hg]; omega)) ?_
  refine hκ _ _ ?_; clear hκ hξ ξ κ
  refine sq ?_
  refine rgd [4] [] [9, 14, 16] [] (by kernel_rfl) (by kernel_rfl) ?_; intro κ ξ hκ hξ
  try simp (config := { decide := true }) only [go_sem, Nat.reduceMul, Nat.reduceAdd]
  repeat with_reducible refine And.intro (by first | assumption | omega | (simp; done) | (simp; omega) | (intro hg; simp (config := { decide := true }) only [go_sem, hg]; done) | (intro hg; simp (config := { decide := true }) only [go_sem, hg]; omega)) ?_
  refine scallF (cmp_w _ _) ?_
  try simp (config := { decide := true }) only [go_sem, Nat.reduceMul, Nat.reduceAdd]
  repeat with_reducible refine And.intro (by first | assumption | omega | (simp; done) | (simp; omega) | (intro hg; simp (config := { decide := true }) only [go_sem, hg]; done) | (intro hg; simp (config := { decide := true }) only [go_sem, hg]; omega)) ?_
  refine scallF (cmp_w _ _) ?_
  try simp (config := { decide := true }) only [go_sem, Nat.reduceMul, Nat.reduceAdd]
  repeat with_reducible refine And.intro (by first | assumption | omega | (simp; done) | (simp; omega) | (intro hg; simp (config := { decide := true }) only [go_sem, hg]; done) | (intro hg; simp (config := { decide := true }) only [go_sem, hg]; omega)) ?_
  refine scallF (or_w [_, _] _) ?_
  try simp (config := { decide := true }) only [go_sem, Nat.reduceMul, Nat.reduceAdd]
  repeat with_reducible refine And.intro (by first | assumption | omega | (simp; done) | (simp; omega) | (intro hg; simp (config := { decide := true }) only [go_sem, hg]; done) | (intro hg; simp (config := { decide := true }) only [go_sem, hg]; omega)) ?_
  refine hκ _ _ ?_; clear hκ hξ ξ κ
  refine rt ?_
  refine retE ?_
  simp (config := { decide := true }) only [go_sem, resD, resV]
  all_goals rfl

theorem bsg_w (gs : List Gl) (t : Tok) (b : Int) (hn : gs.length ≤ 1000) (m : Nat) (hm : m ≤ gs.length) (hlo : ∀ k, k < m → icmp (gat gs k).1 b < 0) (hhi : ∀ k, m ≤ k → k < gs.length → 0 ≤ icmp (gat gs k).1 b) : PCall Try.prog (.func 39) [.sl 2 (gs.map grow) t, .int .u8 b, .fn (.func 34) [] []] (.tup [.int .i64 m, .bool (decide (m < gs.length ∧ icmp (gat gs m).1 b = 0))]) := by
  refine PCall.ok fun hok => ?_
  simp only [okAll, D.ok, okRows, and_true, true_and, lim_eq, inR_i64', inR_i32', inR_u8', inR_u16', inR_u64'] at hok
  rw [List.length_map] at hok; obtain ⟨⟨hl, hr⟩, hb⟩ := hok
  refine PCall.le ?_
  refine fn_ Try.func39 (by rfl) (by rfl) (rs := [.tmp 6, .tmp 7]) (by rfl) (by simp [Try.f39]) ?_
  refine sq ?_
  refine rg [0, 1, 2] [] [] (by kernel_rfl) ?_; intro κ ξ hκ hξ
  try simp (config := { decide := true }) only [go_sem, Nat.reduceMul, Nat.reduceAdd]
  repeat with_reducible refine And.intro (by first | assumption | omega | (simp; done) | (simp; omega) | (intro hg; simp (config := { decide := true }) only [go_sem, hg]; done) | (intro hg; simp (config := { decide := true }) only [go_sem, hg]; omega)) ?_
  refine hκ _ _ ?_; clear hκ hξ ξ κ
  refine sq ?_
  refine rg [0, 1, 2, 8] [] [] (by kernel_rfl) ?_; intro κ ξ hκ hξ
  try simp (config := { decide := true }) only [go_sem, Nat.reduceMul, Nat.reduceAdd]
  repeat with_reducible refine And.intro (by first | assumption | omega | (simp; done) | (simp; omega) | (intro hg; simp (config := { decide := true }) only [go_sem, hg]; done) | (intro hg; simp (config := { decide := true }) only [go_sem, hg]; omega)) ?_
  refine hκ _ _ ?_; clear hκ hξ ξ κ
  refine sq ?_
  refine rg [0, 1, 2, 8, 9, 10] [] [] (by kernel_rfl) ?_; intro κ ξ hκ hξ
  try simp (config := { decide := true }) only [go_sem, Nat.reduceMul, Nat.reduceAdd]
  repeat with_reducible refine And.intro (by first | assumption | omega | (simp; done) | (simp; omega) | (intro hg; simp (config := { decide := true }) only [go_sem, hg]; done) | (intro hg; simp (config := { decide := true }) only [go_sem, hg]; omega)) ?_
  refine hκ _ _ ?_; clear hκ hξ ξ κ
  refine sq ?_
  refine bl ?_
  refine lp (α := Nat × Nat) (fun x => mk [(0, .sl 2 (gs.map grow) t), (1, .int .u8 b), (2, .fn (.func 34) [] []), (8, .int .i64 gs.length), (9, .int .i64 x.1), (10, .int .i64 x.2)]) (fun _ => []) (fun x => x.1 ≤ x.2 ∧ x.2 ≤ gs.length ∧ x.1 ≤ m ∧ m ≤ x.2) (fun x => x.2 - x.1) (0, gs.length) ⟨⟨by omega, by omega, by omega, by omega⟩, EnvLe.of_eq rfl, .refl _⟩ ?_
  rintro ⟨i, j⟩ ⟨h1, h2, h3, h4⟩
  simp only at h1 h2 h3 h4
  refine sq ?_
  refine sq ?_
  refine rg [0, 1, 2, 8, 9, 10, 17] [] [] (by kernel_rfl) ?_; intro κ ξ hκ hξ
  try simp (config := { decide := true }) only [go_sem, Nat.reduceMul, Nat.reduceAdd]
  repeat with_reducible refine And.intro (by first | assumption | omega | (simp; done) | (simp; omega) | (intro hg; simp (config := { decide := true }) only [go_sem, hg]; done) | (intro hg; simp (config := { decide := true }) only [go_sem, hg]; omega)) ?_
  refine hκ _ _ ?_; clear hκ hξ ξ κ
  refine cd (by rfl) (fun c0 => ?_) (fun c0 => ?_)
  · simp only [go_sem] at c0
    refine sk ?_
    refine bl ?_
    refine sq ?_
    refine rg [0, 1, 2, 8, 9, 10, 11] [] [] (by kernel_rfl) ?_; intro κ ξ hκ hξ
    try simp (config := { decide := true }) only [go_sem, Nat.reduceMul, Nat.reduceAdd, c0]
    repeat with_reducible refine And.intro (by first | assumption | omega | (simp; done) | (simp; omega) | (intro hg; simp (config := { decide := true }) only [go_sem, hg]; done) | (intro hg; simp (config := { decide := true }) only [go_sem, hg]; omega)) ?_
    simp only [mid_eq (show i + j ≤ 562949953421312 by omega)]
    have hmid : (((i + j) / 2 : Nat) : Int) < gs.length := by omega
    refine hκ _ _ ?_; clear hκ hξ ξ κ
    refine sq ?_
    refine rg [0, 1, 2, 8, 9, 10, 11, 31] [] [] (by kernel_rfl) ?_; intro κ ξ hκ hξ
    try simp (config := { decide := true }) only [go_sem, Nat.reduceMul, Nat.reduceAdd, c0, hmid]
    repeat with_reducible refine And.intro (by first | assumption | omega | (simp; done) | (simp; omega) | (intro hg; simp (config := { decide := true }) only [go_sem, hg]; done) | (intro hg; simp (config := { decide := true }) only [go_sem, hg]; omega)) ?_
    refine callF (gcmp_w _ _) ?_
    try simp (config := { decide := true }) only [go_sem, Nat.reduceMul, Nat.reduceAdd, c0, hmid]
    repeat with_reducible refine And.intro (by first | assumption | omega | (simp; done) | (simp; omega) | (intro hg; simp (config := { decide := true }) only [go_sem, hg]; done) | (intro hg; simp (config := { decide := true }) only [go_sem, hg]; omega)) ?_
    refine hκ _ _ ?_; clear hκ hξ ξ κ
    refine cd (by rfl) (fun c1 => ?_) (fun c1 => ?_)
    · try simp only [go_sem] at c1
      refine rg [0, 1, 2, 8, 9, 10] [] [] (by kernel_rfl) ?_; intro κ ξ hκ hξ
      try simp (config := { decide := true }) only [go_sem, Nat.reduceMul, Nat.reduceAdd, c0, hmid, c1]
      repeat with_reducible refine And.intro (by first | assumption | omega | (simp; done) | (simp; omega) | (intro hg; simp (config := { decide := true }) only [go_sem, hg]; done) | (intro hg; simp (config := { decide := true }) only [go_sem, hg]; omega)) ?_
      refine hκ _ _ ?_; clear hκ hξ ξ κ
      refine ⟨((i + j) / 2 + 1, j), ⟨⟨by omega, by omega, ?_, by omega⟩, by omega⟩, EnvLe.of_eq (by rw [w64 (by omega)]; rfl), .refl _⟩
      refine Nat.lt_of_not_le fun h => ?_
      have := hhi _ h (by omega)
      omega
    · try simp only [go_sem] at c1
      refine rg [0, 1, 2, 8, 9, 10] [] [] (by kernel_rfl) ?_; intro κ ξ hκ hξ
      try simp (config := { decide := true }) only [go_sem, Nat.reduceMul, Nat.reduceAdd, c0, hmid, c1]
      repeat with_reducible refine And.intro (by first | assumption | omega | (simp; done) | (simp; omega) | (intro hg; simp (config := { decide := true }) only [go_sem, hg]; done) | (intro hg; simp (config := { decide := true }) only [go_sem, hg]; omega)) ?_
      refine hκ _ _ ?_; clear hκ hξ ξ κ
      refine ⟨(i, (i + j) / 2), ⟨⟨by omega, by omega, by omega, ?_⟩, by omega⟩, EnvLe.of_eq rfl, .refl _⟩
      refine Nat.le_of_not_lt fun h => ?_
      simp only at h
      have := hlo _ h
      omega
  · simp only [go_sem] at c0
    obtain rfl : m = i := by omega
    refine ex ?_
    refine sq ?_
    refine rg [6, 7] [] [(4, 39)] (by kernel_rfl) ?_; intro κ ξ hκ hξ
    try simp (config := { decide := true }) only [go_sem, Nat.reduceMul, Nat.reduceAdd, c0]
    repeat with_reducible refine And.intro (by first | assumption | omega | (simp; done) | (simp; omega) | (intro hg; simp (config := { decide := true }) only [go_sem, hg]; done) | (intro hg; simp (config := { decide := true }) only [go_sem, hg]; omega)) ?_
    refine vo_gc ?_; simp (config := { decide := true }) only [go_sem, c0]
    refine gcallF (d := .int .i64 (icmp (gat gs m).1 b)) (fun hg => ⟨by first | rfl | (simp (config := { decide := true }) only [go_sem, hg]; done) | trace_state, ?_⟩) ?_
    · have hg' : (m : Int) < gs.length := of_decide_eq_true hg
      simp only [go_sem, hg']; exact gcmp_w _ _
    try simp (config := { decide := true }) only [go_sem, Nat.reduceMul, Nat.reduceAdd, c0]
    repeat with_reducible refine And.intro (by first | assumption | omega | (simp; done) | (simp; omega) | (intro hg; simp (config := { decide := true }) only [go_sem, hg]; done) | (intro hg; simp (config := { decide := true }) only [go_sem, hg]; omega)) ?_
    refine hκ _ _ ?_; clear hκ hξ ξ κ
    refine rt ?_
    refine retE ?_
    simp (config := { decide := true }) only [go_sem, resD, resV, c0]
    simp only [Int.ofNat_lt, Bool.decide_and]

theorem bsk_w (l : List Kn) (t : Tok) (p : Int × Int) (hn : l.length ≤ 1000) (m : Nat) (hm : m ≤ l.length) (hlo : ∀ k, k < m → kcmp (kat l k) p < 0) (hhi : ∀ k, m ≤ k → k < l.length → 0 ≤ kcmp (kat l k) p) : PCall Try.prog (.func 38) [.sl 3 (l.map krow) t, .ag (prow p), .fn (.func 28) [] []] (.tup [.int .i64 m, .bool (decide (m < l.length ∧ kcmp (kat l m) p = 0))]) := by
  refine PCall.ok fun hok => ?_
  simp only [okAll, D.ok, okRows, and_true, true_and, lim_eq, inR_i64', inR_i32', inR_u8', inR_u16', inR_u64'] at hok
  rw [List.length_map] at hok; obtain ⟨⟨hl, hr⟩, hb⟩ := hok
  refine PCall.le ?_
  refine fn_ Try.func38 (by rfl) (by rfl) (rs := [.tmp 6, .tmp 7]) (by rfl) (by simp [Try.f38]) ?_
  refine sq ?_
  refine rg [0, 2, 4] [4] [] (by kernel_rfl) ?_; intro κ ξ hκ hξ
  try simp (config := { decide := true }) only [go_sem, Nat.reduceMul, Nat.reduceAdd]
  repeat with_reducible refine And.intro (by first | assumption | omega | (simp; done) | (simp; omega) | (intro hg; simp (config := { decide := true }) only [go_sem, hg]; done) | (intro hg; simp (config := { decide := true }) only [go_sem, hg]; omega)) ?_
  refine hκ _ _ ?_; clear hκ hξ ξ κ
  refine sq ?_
  refine rg [0, 2, 4, 8] [] [] (by kernel_rfl) ?_; intro κ ξ hκ hξ
  try simp (config := { decide := true }) only [go_sem, Nat.reduceMul, Nat.reduceAdd]
  repeat with_reducible refine And.intro (by first | assumption | omega | (simp; done) | (simp; omega) | (intro hg; simp (config := { decide := true }) only [go_sem, hg]; done) | (intro hg; simp (config := { decide := true }) only [go_sem, hg]; omega)) ?_
  refine hκ _ _ ?_; clear hκ hξ ξ κ
  refine sq ?_
  refine rg [0, 2, 4, 8, 9, 10] [] [] (by kernel_rfl) ?_; intro κ ξ hκ hξ
  try simp (config := { decide := true }) only [go_sem, Nat.reduceMul, Nat.reduceAdd]
  repeat with_reducible refine And.intro (by first | assumption | omega | (simp; done) | (simp; omega) | (intro hg; simp (config := { decide := true }) only [go_sem, hg]; done) | (intro hg; simp (config := { decide := true }) only [go_sem, hg]; omega)) ?_
  refine hκ _ _ ?_; clear hκ hξ ξ κ
  refine sq ?_
  refine bl ?_
  refine lp (α := Nat × Nat) (fun x => mk [(0, .sl 3 (l.map krow) t), (2, .fn (.func 28) [] []), (4, .el (prow p)), (8, .int .i64 l.length), (9, .int .i64 x.1), (10, .int .i64 x.2)]) (fun _ => []) (fun x => x.1 ≤ x.2 ∧ x.2 ≤ l.length ∧ x.1 ≤ m ∧ m ≤ x.2) (fun x => x.2 - x.1) (0, l.length) ⟨⟨by omega, by omega, by omega, by omega⟩, EnvLe.of_eq rfl, .refl _⟩ ?_
  rintro ⟨i, j⟩ ⟨h1, h2, h3, h4⟩
  simp only at h1 h2 h3 h4
  refine sq ?_
  refine sq ?_
  refine rg [0, 2, 4, 8, 9, 10, 17] [] [] (by kernel_rfl) ?_; intro κ ξ hκ hξ
  try simp (config := { decide := true }) only [go_sem, Nat.reduceMul, Nat.reduceAdd]
  repeat with_reducible refine And.intro (by first | assumption | omega | (simp; done) | (simp; omega) | (intro hg; simp (config := { decide := true }) only [go_sem, hg]; done) | (intro hg; simp (config := { decide := true }) only [go_sem, hg]; omega)) ?_
  refine hκ _ _ ?_; clear hκ hξ ξ κ
  refine cd (by rfl) (fun c0 => ?_) (fun c0 => ?_)
  · simp only [go_sem] at c0
    refine sk ?_
    refine bl ?_
    refine sq ?_
    refine rg [0, 2, 4, 8, 9, 10, 11] [] [] (by kernel_rfl) ?_; intro κ ξ hκ hξ
    try simp (config := { decide := true }) only [go_sem, Nat.reduceMul, Nat.reduceAdd, c0]
    repeat with_reducible refine And.intro (by first | assumption | omega | (simp; done) | (simp; omega) | (intro hg; simp (config := { decide := true }) only [go_sem, hg]; done) | (intro hg; simp (config := { decide := true }) only [go_sem, hg]; omega)) ?_
    simp only [mid_eq (show i + j ≤ 562949953421312 by omega)]
    have hmid : (((i + j) / 2 : Nat) : Int) < l.length := by omega
    refine hκ _ _ ?_; clear hκ hξ ξ κ
    refine sq ?_
    refine rgd [0, 2, 4, 8, 9, 10, 11, 31] [] [30] [] (by kernel_rfl) (by kernel_rfl) ?_; intro κ ξ hκ hξ
    try simp (config := { decide := true }) only [go_sem, Nat.reduceMul, Nat.reduceAdd, c0, hmid]
    repeat with_reducible refine And.intro (by first | assumption | omega | (simp; done) | (simp; omega) | (intro hg; simp (config := { decide := true }) only [go_sem, hg]; done) | (intro hg; simp (config := { decide := true }) only [go_sem, hg]; omega)) ?_
    refine scallF (kcmp_w _ _) ?_
    try simp (config := { decide := true }) only [go_sem, Nat.reduceMul, Nat.reduceAdd, c0, hmid]
    repeat with_reducible refine And.intro (by first | assumption | omega | (simp; done) | (simp; omega) | (intro hg; simp (config := { decide := true }) only [go_sem, hg]; done) | (intro hg; simp (config := { decide := true }) only [go_sem, hg]; omega)) ?_
    refine hκ _ _ ?_; clear hκ hξ ξ κ
    refine cd (by rfl) (fun c1 => ?_) (fun c1 => ?_)
    · try simp only [go_sem] at c1
      refine rg [0, 2, 4, 8, 9, 10] [] [] (by kernel_rfl) ?_; intro κ ξ hκ hξ
      try simp (config := { decide := true }) only [go_sem, Nat.reduceMul, Nat.reduceAdd, c0, hmid, c1]
      repeat with_reducible refine And.intro (by first | assumption | omega | (simp; done) | (simp; omega) | (intro hg; simp (config := { decide := true }) only [go_sem, hg]; done) | (intro hg; simp (config := { decide := true }) only [go_sem, hg]; omega)) ?_
      refine hκ _ _ ?_; clear hκ hξ ξ κ
      refine ⟨((i + j) / 2 + 1, j), ⟨⟨by omega, by omega, ?_, by omega⟩, by omega⟩, EnvLe.of_eq (by rw [w64 (by omega)]; rfl), .refl _⟩
      refine Nat.lt_of_not_le fun h => ?_
      have := hhi _ h (by omega)
      omega
    · try simp only [go_sem] at c1
      refine rg [0, 2, 4, 8, 9, 10] [] [] (by kernel_rfl) ?_; intro κ ξ hκ hξ
      try simp (config := { decide := true }) only [go_sem, Nat.reduceMul, Nat.reduceAdd, c0, hmid, c1]
      repeat with_reducible refine And.intro (by first | assumption | omega | (simp; done) | (simp; omega) | (intro hg; simp (config := { decide := true }) only [go_sem, hg]; done) | (intro hg; simp (config := { decide := true }) only [go_sem, hg]; omega)) ?_
      refine hκ _ _ ?_; clear hκ hξ ξ κ
      refine ⟨(i, (i + j) / 2), ⟨⟨by omega, by omega, by omega, ?_⟩, by omega⟩, EnvLe.of_eq rfl, .refl _⟩
      refine Nat.le_of_not_lt fun h => ?_
      simp only at h
      have := hlo _ h
      omega
  · simp only [go_sem] at c0
    obtain rfl : m = i := by omega
    refine ex ?_
    refine sq ?_
    refine rgd [6, 7] [] [46] [(4, 39)] (by kernel_rfl) (by kernel_rfl) ?_; intro κ ξ hκ hξ
    try simp (config := { decide := true }) only [go_sem, Nat.reduceMul, Nat.reduceAdd, c0]
    repeat with_reducible refine And.intro (by first | assumption | omega | (simp; done) | (simp; omega) | (intro hg; simp (config := { decide := true }) only [go_sem, hg]; done) | (intro hg; simp (config := { decide := true }) only [go_sem, hg]; omega)) ?_
    refine vd_gc (by rfl) ?_; simp (config := { decide := true }) only [go_sem, c0]
    refine gcallF (d := .int .i64 (kcmp (kat l m) p)) (fun hg => ⟨by first | rfl | (simp (config := { decide := true }) only [go_sem, hg]; done), ?_⟩) ?_
    · have hg' : (m : Int) < l.length := of_decide_eq_true hg
      simp only [go_sem, hg']; exact kcmp_w _ _
    try simp (config := { decide := true }) only [go_sem, Nat.reduceMul, Nat.reduceAdd, c0]
    repeat with_reducible refine And.intro (by first | assumption | omega | (simp; done) | (simp; omega) | (intro hg; simp (config := { decide := true }) only [go_sem, hg]; done) | (intro hg; simp (config := { decide := true }) only [go_sem, hg]; omega)) ?_
    refine hκ _ _ ?_; clear hκ hξ ξ κ
    refine rt ?_
    refine retE ?_
    simp (config := { decide := true }) only [go_sem, resD, resV, c0]
    simp only [Int.ofNat_lt, Bool.decide_and]

theorem findg_w (gs : List Gl) (t : Tok) (b : Int) (hn : gs.length ≤ 1000) (m : Nat) (hm : m ≤ gs.length) (hlo : ∀ k, k < m → icmp (gat gs k).1 b < 0) (hhi : ∀ k, m ≤ k → k < gs.length → 0 ≤ icmp (gat gs k).1 b) : PCall Try.prog (.func 33) [.sl 2 (gs.map grow) t, .int .u8 b, .fn (.func 34) [] []] (.tup [.ag (grow (if m < gs.length ∧ icmp (gat gs m).1 b = 0 then gat gs m else (0, 0))), .bool (decide (m < gs.length ∧ icmp (gat gs m).1 b = 0))]) := by
  refine PCall.le ?_
  refine fn_ Try.func33 (by rfl) (by rfl) (rs := [.cell 6 46, .tmp 7]) (by rfl) (by simp [Try.f33]) ?_
  refine sq ?_
  refine rg [0, 1, 2, 6] [] [] (by kernel_rfl) ?_; intro κ ξ hκ hξ
  try simp (config := { decide := true }) only [go_sem, Nat.reduceMul, Nat.reduceAdd]
  repeat with_reducible refine And.intro (by first | assumption | omega | (simp; done) | (simp; omega) | (intro hg; simp (config := { decide := true }) only [go_sem, hg]; done) | (intro hg; simp (config := { decide := true }) only [go_sem, hg]; omega)) ?_
  intro b6 hb6
  try simp (config := { decide := true }) only [go_sem, Nat.reduceMul, Nat.reduceAdd, hb6]
  repeat with_reducible refine And.intro (by first | assumption | omega | (simp; done) | (simp; omega) | (intro hg; simp (config := { decide := true }) only [go_sem, hg]; done) | (intro hg; simp (config := { decide := true }) only [go_sem, hg]; omega)) ?_
  refine hκ _ _ ?_; clear hκ hξ ξ κ
  refine sq ?_
  refine rg [0, 6, 8, 9] [] [] (by kernel_rfl) ?_; intro κ ξ hκ hξ
  try simp (config := { decide := true }) only [go_sem, Nat.reduceMul, Nat.reduceAdd, hb6]
  repeat with_reducible refine And.intro (by first | assumption | omega | (simp; done) | (simp; omega) | (intro hg; simp (config := { decide := true }) only [go_sem, hg]; done) | (intro hg; simp (config := { decide := true }) only [go_sem, hg]; omega)) ?_
  refine callF (bsg_w gs t b hn m hm hlo hhi) ?_
  try simp (config := { decide := true }) only [go_sem, Nat.reduceMul, Nat.reduceAdd, hb6]
  repeat with_reducible refine And.intro (by first | assumption | omega | (simp; done) | (simp; omega) | (intro hg; simp (config := { decide := true }) only [go_sem, hg]; done) | (intro hg; simp (config := { decide := true }) only [go_sem, hg]; omega)) ?_
  refine hκ _ _ ?_; clear hκ hξ ξ κ
  refine sq ?_
  refine sq ?_
  refine rg [0, 6, 8, 19] [] [] (by kernel_rfl) ?_; intro κ ξ hκ hξ
  try simp (config := { decide := true }) only [go_sem, Nat.reduceMul, Nat.reduceAdd, hb6]
  repeat with_reducible refine And.intro (by first | assumption | omega | (simp; done) | (simp; omega) | (intro hg; simp (config := { decide := true }) only [go_sem, hg]; done) | (intro hg; simp (config := { decide := true }) only [go_sem, hg]; omega)) ?_
  refine hκ _ _ ?_; clear hκ hξ ξ κ
  refine cd (by rfl) (fun c0 => ?_) (fun c0 => ?_)
  · simp only [go_sem] at c0
    refine sq ?_
    refine rg [6, 10] [10] [] (by kernel_rfl) ?_; intro κ ξ hκ hξ
    try simp (config := { decide := true }) only [go_sem, Nat.reduceMul, Nat.reduceAdd, hb6, c0]
    repeat with_reducible refine And.intro (by first | assumption | omega | (simp; done) | (simp; omega) | (intro hg; simp (config := { decide := true }) only [go_sem, hg]; done) | (intro hg; simp (config := { decide := true }) only [go_sem, hg]; omega)) ?_
    refine hκ _ _ ?_; clear hκ hξ ξ κ
    refine sq ?_
    refine rg [6, 7] [] [] (by kernel_rfl) ?_; intro κ ξ hκ hξ
    try simp (config := { decide := true }) only [go_sem, Nat.reduceMul, Nat.reduceAdd, hb6, c0]
    repeat with_reducible refine And.intro (by first | assumption | omega | (simp; done) | (simp; omega) | (intro hg; simp (config := { decide := true }) only [go_sem, hg]; done) | (intro hg; simp (config := { decide := true }) only [go_sem, hg]; omega)) ?_
    refine hκ _ _ ?_; clear hκ hξ ξ κ
    refine rt ?_
    refine retE ?_
    simp (config := { decide := true }) only [go_sem, resD, resV, hb6, c0]
    all_goals (rw [if_neg (by omega), decide_eq_false (by omega)]; try rfl)
  · simp only [go_sem] at c0
    have c1 : (m : Int) < gs.length := by omega
    refine sk ?_
    refine sq ?_
    refine rg [6, 7] [] [] (by kernel_rfl) ?_; intro κ ξ hκ hξ
    try simp (config := { decide := true }) only [go_sem, Nat.reduceMul, Nat.reduceAdd, hb6, c0, c1]
    repeat with_reducible refine And.intro (by first | assumption | omega | (simp; done) | (simp; omega) | (intro hg; simp (config := { decide := true }) only [go_sem, hg]; done) | (intro hg; simp (config := { decide := true }) only [go_sem, hg]; omega)) ?_
    refine hκ _ _ ?_; clear hκ hξ ξ κ
    refine rt ?_
    refine retE ?_
    simp (config := { decide := true }) only [go_sem, resD, resV, hb6, c0, c1]
    all_goals (rw [if_pos (by omega), decide_eq_true (by omega)]; try rfl)

theorem findk_w (l : List Kn) (t : Tok) (p : Int × Int) (hn : l.length ≤ 1000) (m : Nat) (hm : m ≤ l.length) (hlo : ∀ k, k < m → kcmp (kat l k) p < 0) (hhi : ∀ k, m ≤ k → k < l.length → 0 ≤ kcmp (kat l k) p) : PCall Try.prog (.func 30) [.sl 3 (l.map krow) t, .ag (prow p), .fn (.func 28) [] []] (.tup [.ag (krow (if m < l.length ∧ kcmp (kat l m) p = 0 then kat l m else (0, 0, 0))), .bool (decide (m < l.length ∧ kcmp (kat l m) p = 0))]) := by
  refine PCall.le ?_
  refine fn_ Try.func30 (by rfl) (by rfl) (rs := [.cell 6 48, .tmp 7]) (by rfl) (by simp [Try.f30]) ?_
  refine sq ?_
  refine rg [0, 2, 4, 6] [4] [] (by kernel_rfl) ?_; intro κ ξ hκ hξ
  try simp (config := { decide := true }) only [go_sem, Nat.reduceMul, Nat.reduceAdd]
  repeat with_reducible refine And.intro (by first | assumption | omega | (simp; done) | (simp; omega) | (intro hg; simp (config := { decide := true }) only [go_sem, hg]; done) | (intro hg; simp (config := { decide := true }) only [go_sem, hg]; omega)) ?_
  intro b6 hb6
  try simp (config := { decide := true }) only [go_sem, Nat.reduceMul, Nat.reduceAdd, hb6]
  repeat with_reducible refine And.intro (by first | assumption | omega | (simp; done) | (simp; omega) | (intro hg; simp (config := { decide := true }) only [go_sem, hg]; done) | (intro hg; simp (config := { decide := true }) only [go_sem, hg]; omega)) ?_
  refine hκ _ _ ?_; clear hκ hξ ξ κ
  refine sq ?_
  refine rg [0, 6, 8, 9] [] [] (by kernel_rfl) ?_; intro κ ξ hκ hξ
  try simp (config := { decide := true }) only [go_sem, Nat.reduceMul, Nat.reduceAdd, hb6]
  repeat with_reducible refine And.intro (by first | assumption | omega | (simp; done) | (simp; omega) | (intro hg; simp (config := { decide := true }) only [go_sem, hg]; done) | (intro hg; simp (config := { decide := true }) only [go_sem, hg]; omega)) ?_
  refine callF (bsk_w l t p hn m hm hlo hhi) ?_
  try simp (config := { decide := true }) only [go_sem, Nat.reduceMul, Nat.reduceAdd, hb6]
  repeat with_reducible refine And.intro (by first | assumption | omega | (simp; done) | (simp; omega) | (intro hg; simp (config := { decide := true }) only [go_sem, hg]; done) | (intro hg; simp (config := { decide := true }) only [go_sem, hg]; omega)) ?_
  refine hκ _ _ ?_; clear hκ hξ ξ κ
  refine sq ?_
  refine sq ?_
  refine rg [0, 6, 8, 19] [] [] (by kernel_rfl) ?_; intro κ ξ hκ hξ
  try simp (config := { decide := true }) only [go_sem, Nat.reduceMul, Nat.reduceAdd, hb6]
  repeat with_reducible refine And.intro (by first | assumption | omega | (simp; done) | (simp; omega) | (intro hg; simp (config := { decide := true }) only [go_sem, hg]; done) | (intro hg; simp (config := { decide := true }) only [go_sem, hg]; omega)) ?_
  refine hκ _ _ ?_; clear hκ hξ ξ κ
  refine cd (by rfl) (fun c0 => ?_) (fun c0 => ?_)
  · simp only [go_sem] at c0
    refine sq ?_
    refine rg [6, 10] [10] [] (by kernel_rfl) ?_; intro κ ξ hκ hξ
    try simp (config := { decide := true }) only [go_sem, Nat.reduceMul, Nat.reduceAdd, hb6, c0]
    repeat with_reducible refine And.intro (by first | assumption | omega | (simp; done) | (simp; omega) | (intro hg; simp (config := { decide := true }) only [go_sem, hg]; done) | (intro hg; simp (config := { decide := true }) only [go_sem, hg]; omega)) ?_
    refine hκ _ _ ?_; clear hκ hξ ξ κ
    refine sq ?_
    refine rg [6, 7] [] [] (by kernel_rfl) ?_; intro κ ξ hκ hξ
    try simp (config := { decide := true }) only [go_sem, Nat.reduceMul, Nat.reduceAdd, hb6, c0]
    repeat with_reducible refine And.intro (by first | assumption | omega | (simp; done) | (simp; omega) | (intro hg; simp (config := { decide := true }) only [go_sem, hg]; done) | (intro hg; simp (config := { decide := true }) only [go_sem, hg]; omega)) ?_
    refine hκ _ _ ?_; clear hκ hξ ξ κ
    refine rt ?_
    refine retE ?_
    simp (config := { decide := true }) only [go_sem, resD, resV, hb6, c0]
    all_goals (rw [if_neg (by omega), decide_eq_false (by omega)]; try rfl)
  · simp only [go_sem] at c0
    have c1 : (m : Int) < l.length := by omega
    refine sk ?_
    refine sq ?_
    refine rg [6, 7] [] [] (by kernel_rfl) ?_; intro κ ξ hκ hξ
    try simp (config := { decide := true }) only [go_sem, Nat.reduceMul, Nat.reduceAdd, hb6, c0, c1]
    repeat with_reducible refine And.intro (by first | assumption | omega | (simp; done) | (simp; omega) | (intro hg; simp (config := { decide := true }) only [go_sem, hg]; done) | (intro hg; simp (config := { decide := true }) only [go_sem, hg]; omega)) ?_
    refine hκ _ _ ?_; clear hκ hξ ξ κ
    refine rt ?_
    refine retE ?_
    simp (config := { decide := true }) only [go_sem, resD, resV, hb6, c0, c1]
    all_goals (rw [if_pos (by omega), decide_eq_true (by omega)]; try rfl)

theorem glyph_w (gs : List Gl) (ks : List Kn) (tg tk : Tok) (b : Int) (hn : gs.length ≤ 1000) (m : Nat) (hm : m ≤ gs.length) (hlo : ∀ k, k < m → icmp (gat gs k).1 b < 0) (hhi : ∀ k, m ≤ k → k < gs.length → 0 ≤ icmp (gat gs k).1 b) : PCall Try.prog (.func 26) [.ag [.sl 2 (gs.map grow) tg, .sl 3 (ks.map krow) tk], .int .u8 b] (.tup [.ag (grow (if m < gs.length ∧ icmp (gat gs m).1 b = 0 then gat gs m else (0, 0))), .bool (decide (m < gs.length ∧ icmp (gat gs m).1 b = 0))]) := by
  refine PCall.le ?_
  refine fn_ Try.func26 (by rfl) (by rfl) (rs := [.cell 4 46, .tmp 5]) (by rfl) (by simp [Try.f26]) ?_
  refine sq ?_
  refine rg [1, 2, 4] [2] [] (by kernel_rfl) ?_; intro κ ξ hκ hξ
  try simp (config := { decide := true }) only [go_sem, Nat.reduceMul, Nat.reduceAdd]
  repeat with_reducible refine And.intro (by first | assumption | omega | (simp; done) | (simp; omega) | (intro hg; simp (config := { decide := true }) only [go_sem, hg]; done) | (intro hg; simp (config := { decide := true }) only [go_sem, hg]; omega)) ?_
  intro b4 hb4
  try simp (config := { decide := true }) only [go_sem, Nat.reduceMul, Nat.reduceAdd, hb4]
  repeat with_reducible refine And.intro (by first | assumption | omega | (simp; done) | (simp; omega) | (intro hg; simp (config := { decide := true }) only [go_sem, hg]; done) | (intro hg; simp (config := { decide := true }) only [go_sem, hg]; omega)) ?_
  refine hκ _ _ ?_; clear hκ hξ ξ κ
  refine sq ?_
  refine rg [4, 5] [] [] (by kernel_rfl) ?_; intro κ ξ hκ hξ
  try simp (config := { decide := true }) only [go_sem, Nat.reduceMul, Nat.reduceAdd, hb4]
  repeat with_reducible refine And.intro (by first | assumption | omega | (simp; done) | (simp; omega) | (intro hg; simp (config := { decide := true }) only [go_sem, hg]; done) | (intro hg; simp (config := { decide := true }) only [go_sem, hg]; omega)) ?_
  refine callF (findg_w gs _ b hn m hm hlo hhi) ?_
  try simp (config := { decide := true }) only [go_sem, Nat.reduceMul, Nat.reduceAdd, hb4]
  repeat with_reducible refine And.intro (by first | assumption | omega | (simp; done) | (simp; omega) | (intro hg; simp (config := { decide := true }) only [go_sem, hg]; done) | (intro hg; simp (config := { decide := true }) only [go_sem, hg]; omega)) ?_
  refine hκ _ _ ?_; clear hκ hξ ξ κ
  refine rt ?_
  refine retE ?_
  simp (config := { decide := true }) only [go_sem, resD, resV, hb4]
  

end Go.Proofs.Ytllimenhdemgoaa

/- The walk of the places of a tree. Printed by a tool of our own. -/
import Derived.Test.YtjjkgeeafjagkaaGreatWa
namespace Go.Proofs.YtjjkgeeafjagkaaGreat
open Go Go.RowKit
set_option linter.unusedSimpArgs false
set_option linter.unusedVariables false
set_option maxHeartbeats 4000000
set_option maxRecDepth 100000
attribute [local go_sem] List.length_map rowAt_n nrow rowAt_t trow rowAt_i irow
attribute [local go_sem] pl_get pl_look pl_look'
theorem places_w (l : List Nd) (t : Tok) : RCall Tryz.prog (.func 64) [.sl 5 (l.map nrow) t] [] (fun (b : Nat) => bif treB l then .tup [.mp b, .bool true] else .tup [.v (.map none), .bool false]) (fun (b : Nat) => bif treB l then [(b, .map (plE l l.length))] else []) (fun (b : Nat) => True) := by
  refine RCall.ok fun hok => ?_
  simp only [okAll, D.ok, okRows, and_true, true_and, lim_eq, inR_i64', inR_i32', inR_u8', inR_u16', inR_u64'] at hok
  obtain ⟨hl, hr⟩ := hok; rw [List.length_map] at hl
  refine fn_ Tryz.func64 (by rfl) (by rfl) (rs := [.tmp 2, .tmp 3]) (by rfl) (by simp [Tryz.f64]) ?_
  refine sq ?_
  refine rg [0] [] [] (by kernel_rfl) ?_; intro κ ξ hκ hξ
  try simp +decide only [go_sem, Nat.reduceMul, Nat.reduceAdd, Nat.reduceBEq, cond_false]
  repeat with_reducible refine And.intro (by first | assumption | omega | (simp; done) | (simp; omega) | (intro hg; simp +decide only [go_sem, hg]; done) | (intro hg; simp +decide only [go_sem, hg]; omega)) ?_
  refine hκ _ _ ?_; clear hκ hξ ξ κ
  refine sq ?_
  refine sq ?_
  by_cases hl0 : 0 < l.length
  · have hl1 : ¬ (l.length : Int) < 1 := by omega
    have hl2 : ((0 : Nat) : Int) < (l.length : Int) := by omega
    have hl3 : (0 : Int) < (l.length : Int) := by omega
    refine rg [0, 30] [] [(3, 12), (8, 17), (15, 24)] (by kernel_rfl) ?_; intro κ ξ hκ hξ
    try simp +decide only [go_sem, Nat.reduceMul, Nat.reduceAdd, Nat.reduceBEq, cond_false, hl1, hl2, hl3]
    repeat with_reducible refine And.intro (by first | assumption | omega | (simp; done) | (simp; omega) | (intro hg; simp +decide only [go_sem, hg]; done) | (intro hg; simp +decide only [go_sem, hg]; omega)) ?_
    refine hκ _ _ ?_; clear hκ hξ ξ κ
    refine cd (by rfl) (fun c0 => ?_) (fun c0 => ?_)
    · try simp only [go_sem] at c0
      refine sq ?_
      refine rg [2, 3] [] [] (by kernel_rfl) ?_; intro κ ξ hκ hξ
      try simp +decide only [go_sem, Nat.reduceMul, Nat.reduceAdd, Nat.reduceBEq, cond_false, hl1, hl2, hl3, c0]
      repeat with_reducible refine And.intro (by first | assumption | omega | (simp; done) | (simp; omega) | (intro hg; simp +decide only [go_sem, hg]; done) | (intro hg; simp +decide only [go_sem, hg]; omega)) ?_
      refine hκ _ _ ?_; clear hκ hξ ξ κ
      have ht : treB l = false := by
        rw [← Bool.not_eq_true, treB_true]
        intro t
        have := t.len
        have := t.root
        omega
      refine rt ?_
      refine retR (0) ?_ ?_ ?_
      · first | exact .refl _ | exact List.nil_sublist _ | exact List.sublist_cons_of_sublist _ (.refl _) | exact ((List.Sublist.refl _).cons _).cons _ | (simp [*]; done) | skip
      · first | trivial | assumption | omega | (simp; done) | skip
      simp +decide only [go_sem, resD, resV, hl1, hl2, hl3, c0]
      rw [ht]; rfl
    · try simp only [go_sem] at c0
      refine sk ?_
      refine sq ?_
      refine rg [0, 4] [] [] (by kernel_rfl) ?_; intro κ ξ hκ hξ
      try simp +decide only [go_sem, Nat.reduceMul, Nat.reduceAdd, Nat.reduceBEq, cond_false, hl1, hl2, hl3, c0]
      repeat with_reducible refine And.intro (by first | assumption | omega | (simp; done) | (simp; omega) | (intro hg; simp +decide only [go_sem, hg]; done) | (intro hg; simp +decide only [go_sem, hg]; omega)) ?_
      intro b31 hb31
      try simp +decide only [go_sem, Nat.reduceMul, Nat.reduceAdd, Nat.reduceBEq, cond_false, hl1, hl2, hl3, c0, hb31]
      repeat with_reducible refine And.intro (by first | assumption | omega | (simp; done) | (simp; omega) | (intro hg; simp +decide only [go_sem, hg]; done) | (intro hg; simp +decide only [go_sem, hg]; omega)) ?_
      refine hκ _ _ ?_; clear hκ hξ ξ κ
      refine sq ?_
      refine sq ?_
      refine rg [0, 4, 32, 33, 34] [] [] (by kernel_rfl) ?_; intro κ ξ hκ hξ
      try simp +decide only [go_sem, Nat.reduceMul, Nat.reduceAdd, Nat.reduceBEq, cond_false, hl1, hl2, hl3, c0, hb31]
      repeat with_reducible refine And.intro (by first | assumption | omega | (simp; done) | (simp; omega) | (intro hg; simp +decide only [go_sem, hg]; done) | (intro hg; simp +decide only [go_sem, hg]; omega)) ?_
      refine hκ _ _ ?_; clear hκ hξ ξ κ
      refine bl ?_
      refine lp (α := Nat) (fun i => mk [(0, .sl 5 (l.map nrow) t), (4, .mp b31), (32, .sl 5 (l.map nrow) t), (33, .int .i64 l.length), (34, .int .i64 i)]) (fun i => [(b31, .map (plE l i))]) (fun i => i ≤ l.length ∧ ∀ j, j < i → okAt l j = true) (fun i => l.length - i) 0 ⟨⟨by omega, by intro j hj; omega⟩, EnvLe.of_eq rfl, .refl _⟩ ?_
      rintro i ⟨hi, hj⟩
      have hpar : dpt l i = (plk l i (nat l i).par).2 + 1 := plk_dpt l i
      obtain ⟨hk0, hk1⟩ := plk_bounds l hi (nat l i).par
      have hth := plk_there l i (nat l i).id
      have hge := idx_ge (l.take i) (nat l i).id
      obtain ⟨k, hpk, hkl⟩ : ∃ k : Nat, (plk l i (nat l i).par).1 = (k : Int) ∧ (k : Int) < l.length := by
        by_cases h : 0 ≤ idx (l.take i) (nat l i).par
        · obtain ⟨h1, _⟩ := hk1 h
          exact ⟨(plk l i (nat l i).par).1.toNat, by omega, by omega⟩
        · have : plk l i (nat l i).par = (0, 0) := by unfold plk; rw [if_neg h]
          exact ⟨0, by rw [this]; rfl, by omega⟩
      refine sq ?_
      refine rg [0, 4, 32, 33, 34, 35] [] [] (by kernel_rfl) ?_; intro κ ξ hκ hξ
      try simp +decide only [go_sem, Nat.reduceMul, Nat.reduceAdd, Nat.reduceBEq, cond_false, hl1, hl2, hl3, c0, hb31, hi]
      repeat with_reducible refine And.intro (by first | assumption | omega | (simp; done) | (simp; omega) | (intro hg; simp +decide only [go_sem, hg]; done) | (intro hg; simp +decide only [go_sem, hg]; omega)) ?_
      refine hκ _ _ ?_; clear hκ hξ ξ κ
      refine sq ?_
      refine cd (by rfl) (fun c1 => ?_) (fun c1 => ?_)
      · try simp only [go_sem] at c1
        refine sk ?_
        refine sq ?_
        refine bl ?_
        refine sq ?_
        refine rgz [(6, [])] [0, 4, 5, 6, 32, 33, 34] [] [] (by kernel_rfl) ?_; intro κ ξ hκ hξ
        try simp +decide only [go_sem, Nat.reduceMul, Nat.reduceAdd, Nat.reduceBEq, cond_false, hl1, hl2, hl3, c0, hb31, hi, c1]
        repeat with_reducible refine And.intro (by first | assumption | omega | (simp; done) | (simp; omega) | (intro hg; simp +decide only [go_sem, hg]; done) | (intro hg; simp +decide only [go_sem, hg]; omega)) ?_
        intro b6 hb6
        try simp +decide only [go_sem, Nat.reduceMul, Nat.reduceAdd, Nat.reduceBEq, cond_false, hl1, hl2, hl3, c0, hb31, hi, c1, hb6]
        repeat with_reducible refine And.intro (by first | assumption | omega | (simp; done) | (simp; omega) | (intro hg; simp +decide only [go_sem, hg]; done) | (intro hg; simp +decide only [go_sem, hg]; omega)) ?_
        refine hκ _ _ ?_; clear hκ hξ ξ κ
        refine sq ?_
        refine rgz [(7, [])] [0, 4, 5, 6, 7, 8, 32, 33, 34] [] [] (by kernel_rfl) ?_; intro κ ξ hκ hξ
        try simp +decide only [go_sem, Nat.reduceMul, Nat.reduceAdd, Nat.reduceBEq, cond_false, hl1, hl2, hl3, c0, hb31, hi, c1, hb6]
        repeat with_reducible refine And.intro (by first | assumption | omega | (simp; done) | (simp; omega) | (intro hg; simp +decide only [go_sem, hg]; done) | (intro hg; simp +decide only [go_sem, hg]; omega)) ?_
        intro b7 hb7
        try simp +decide only [go_sem, Nat.reduceMul, Nat.reduceAdd, Nat.reduceBEq, cond_false, hl1, hl2, hl3, c0, hb31, hi, c1, hb6, hb7]
        repeat with_reducible refine And.intro (by first | assumption | omega | (simp; done) | (simp; omega) | (intro hg; simp +decide only [go_sem, hg]; done) | (intro hg; simp +decide only [go_sem, hg]; omega)) ?_
        skip
        refine hκ _ _ ?_; clear hκ hξ ξ κ
        refine sq ?_
        refine sq ?_
        refine rgd [0, 4, 5, 6, 7, 32, 33, 34, 81] [] [47, 72] [(3, 49), (11, 57), (14, 60), (17, 63), (31, 77)] (by kernel_rfl) (by kernel_rfl) ?_; intro κ ξ hκ hξ
        try simp +decide only [go_sem, Nat.reduceMul, Nat.reduceAdd, Nat.reduceBEq, cond_false, hl1, hl2, hl3, c0, hb31, hi, c1, hb6, hb7, hpk, hkl]
        repeat with_reducible refine And.intro (by first | assumption | omega | (simp; done) | (simp; omega) | (intro hg; simp +decide only [go_sem, hg]; done) | (intro hg; simp +decide only [go_sem, hg]; omega)) ?_
        refine scallF (formed_w _) ?_
        try simp +decide only [go_sem, Nat.reduceMul, Nat.reduceAdd, Nat.reduceBEq, cond_false, hl1, hl2, hl3, c0, hb31, hi, c1, hb6, hb7, hpk, hkl]
        repeat with_reducible refine And.intro (by first | assumption | omega | (simp; done) | (simp; omega) | (intro hg; simp +decide only [go_sem, hg]; done) | (intro hg; simp +decide only [go_sem, hg]; omega)) ?_
        refine vd_gc (by rfl) ?_; simp +decide only [go_sem, hl1, hl2, hl3, c0, hb31, hi, c1, hb6, hb7, hpk, hkl]; refine gcallF (fun hg => ⟨by first | rfl | (simp +decide only [go_sem, hg, hl1, hl2, hl3, c0, hb31, hi, c1, hb6, hb7, hpk, hkl]; done) | exact hg | simpa using hg, stands_w _ _⟩) ?_
        try simp +decide only [go_sem, Nat.reduceMul, Nat.reduceAdd, Nat.reduceBEq, cond_false, hl1, hl2, hl3, c0, hb31, hi, c1, hb6, hb7, hpk, hkl]
        repeat with_reducible refine And.intro (by first | assumption | omega | (simp; done) | (simp; omega) | (intro hg; simp +decide only [go_sem, hg]; done) | (intro hg; simp +decide only [go_sem, hg]; omega)) ?_
        refine hκ _ _ ?_; clear hκ hξ ξ κ
        refine cd (by rfl) (fun c2 => ?_) (fun c2 => ?_)
        · simp only [go_sem] at c2
          refine sq ?_
          refine rg [2, 3] [] [] (by kernel_rfl) ?_; intro κ ξ hκ hξ
          try simp +decide only [go_sem, Nat.reduceMul, Nat.reduceAdd, Nat.reduceBEq, cond_false, hl1, hl2, hl3, c0, hb31, hi, c1, hb6, hb7, hpk, hkl, c2]
          repeat with_reducible refine And.intro (by first | assumption | omega | (simp; done) | (simp; omega) | (intro hg; simp +decide only [go_sem, hg]; done) | (intro hg; simp +decide only [go_sem, hg]; omega)) ?_
          refine hκ _ _ ?_; clear hκ hξ ξ κ
          have ht : treB l = false := by
            refine treB_false (i := i) (by omega) ?_
            rw [← Bool.not_eq_true, ok_prog (by omega) hj hpk]
            rintro ⟨a, ⟨b1, b2⟩, d, e⟩
            rcases c2 with (((h | h | h) | ⟨h0, h | h⟩) | h)
            · rw [a] at h; cases h
            · exact h b1
            · exact h b2
            · exact h (d (by omega)).1
            · rw [(d (by omega)).2] at h; cases h
            · exact e h
          refine rt ?_
          refine retR (0) ?_ ?_ ?_
          · first | exact .refl _ | exact List.nil_sublist _ | exact List.sublist_cons_of_sublist _ (.refl _) | exact ((List.Sublist.refl _).cons _).cons _ | (simp [*]; done) | skip
          · first | trivial | assumption | omega | (simp; done) | skip
          simp +decide only [go_sem, resD, resV, hl1, hl2, hl3, c0, hb31, hi, c1, hb6, hb7, hpk, hkl, c2]
          rw [ht]; rfl
        · simp only [go_sem] at c2
          have hok : okAt l i = true := by
            rw [ok_prog (by omega) hj hpk]
            exact ⟨c2.1.1.1, c2.1.1.2, fun h0 => c2.1.2.resolve_left (fun h => h (by omega)), c2.2⟩
          obtain ⟨hd1, hd2⟩ := plk_two l hj (nat l i).par
          have hw : IntKind.wrap .i64 ((plk l i (nat l i).par).2 + 1) = dpt l i := by rw [w64 (by omega)]; omega
          have hput := pl_put l (by omega) (okAt_true.1 hok).2.1
          refine sk ?_
          refine rg [0, 4, 32, 33, 34] [] [] (by kernel_rfl) ?_; intro κ ξ hκ hξ
          try simp +decide only [go_sem, Nat.reduceMul, Nat.reduceAdd, Nat.reduceBEq, cond_false, hl1, hl2, hl3, c0, hb31, hi, c1, hb6, hb7, hpk, hkl, c2, hw, hput]
          repeat with_reducible refine And.intro (by first | assumption | omega | (simp; done) | (simp; omega) | (intro hg; simp +decide only [go_sem, hg]; done) | (intro hg; simp +decide only [go_sem, hg]; omega)) ?_
          refine hκ _ _ ?_; clear hκ hξ ξ κ
          refine rg [0, 4, 32, 33, 34] [] [] (by kernel_rfl) ?_; intro κ ξ hκ hξ
          try simp +decide only [go_sem, Nat.reduceMul, Nat.reduceAdd, Nat.reduceBEq, cond_false, hl1, hl2, hl3, c0, hb31, hi, c1, hb6, hb7, hpk, hkl, c2, hw, hput]
          repeat with_reducible refine And.intro (by first | assumption | omega | (simp; done) | (simp; omega) | (intro hg; simp +decide only [go_sem, hg]; done) | (intro hg; simp +decide only [go_sem, hg]; omega)) ?_
          refine hκ _ _ ?_; clear hκ hξ ξ κ
          refine ⟨i + 1, ⟨⟨by omega, ?_⟩, by omega⟩, EnvLe.of_eq (by rw [w64 (by omega)]; rfl), .refl _⟩
          intro j h
          rcases Nat.lt_succ_iff_lt_or_eq.1 h with h | rfl
          · exact hj j h
          · exact hok
      · try simp only [go_sem] at c1
        refine ex ?_
        refine sq ?_
        refine rg [2, 3] [] [] (by kernel_rfl) ?_; intro κ ξ hκ hξ
        try simp +decide only [go_sem, Nat.reduceMul, Nat.reduceAdd, Nat.reduceBEq, cond_false, hl1, hl2, hl3, c0, hb31, hi, c1]
        repeat with_reducible refine And.intro (by first | assumption | omega | (simp; done) | (simp; omega) | (intro hg; simp +decide only [go_sem, hg]; done) | (intro hg; simp +decide only [go_sem, hg]; omega)) ?_
        refine hκ _ _ ?_; clear hκ hξ ξ κ
        have hil : i = l.length := by omega
        subst hil
        have ht : treB l = true := treB_all (by omega) c0.1.2 c0.2 hj
        refine rt ?_
        refine retR (b31) ?_ ?_ ?_
        · first | exact .refl _ | exact List.nil_sublist _ | exact List.sublist_cons_of_sublist _ (.refl _) | exact ((List.Sublist.refl _).cons _).cons _ | (simp [*]; done) | skip
        · first | trivial | assumption | omega | (simp; done) | skip
        simp +decide only [go_sem, resD, resV, hl1, hl2, hl3, c0, hb31, hi, c1]
        rw [ht]; rfl
  · have hl1 : (l.length : Int) < 1 := by omega
    refine rg [0, 30] [] [(3, 12), (8, 17), (15, 24)] (by kernel_rfl) ?_; intro κ ξ hκ hξ
    try simp +decide only [go_sem, Nat.reduceMul, Nat.reduceAdd, Nat.reduceBEq, cond_false, hl1]
    repeat with_reducible refine And.intro (by first | assumption | omega | (simp; done) | (simp; omega) | (intro hg; simp +decide only [go_sem, hg]; done) | (intro hg; simp +decide only [go_sem, hg]; omega)) ?_
    refine hκ _ _ ?_; clear hκ hξ ξ κ
    refine cdt (by rfl) ?_
    refine sq ?_
    refine rg [2, 3] [] [] (by kernel_rfl) ?_; intro κ ξ hκ hξ
    try simp +decide only [go_sem, Nat.reduceMul, Nat.reduceAdd, Nat.reduceBEq, cond_false, hl1]
    repeat with_reducible refine And.intro (by first | assumption | omega | (simp; done) | (simp; omega) | (intro hg; simp +decide only [go_sem, hg]; done) | (intro hg; simp +decide only [go_sem, hg]; omega)) ?_
    refine hκ _ _ ?_; clear hκ hξ ξ κ
    have ht : treB l = false := by
      rw [← Bool.not_eq_true, treB_true]
      intro t
      have := t.len
      omega
    refine rt ?_
    refine retR (0) ?_ ?_ ?_
    · first | exact .refl _ | exact List.nil_sublist _ | exact List.sublist_cons_of_sublist _ (.refl _) | exact ((List.Sublist.refl _).cons _).cons _ | (simp [*]; done) | skip
    · first | trivial | assumption | omega | (simp; done) | skip
    simp +decide only [go_sem, resD, resV, hl1]
    rw [ht]; rfl

end Go.Proofs.YtjjkgeeafjagkaaGreat
/- The walks of Find and Kids. Printed by a tool of our own. -/
namespace Go.Proofs.YtjjkgeeafjagkaaGreat
open Go Go.RowKit
set_option linter.unusedSimpArgs false
set_option linter.unusedVariables false
set_option maxHeartbeats 4000000
set_option maxRecDepth 100000
/-- What is wrong with asking for a node. -/
def gerr (l : List Nd) (x : Int) : Int := if (treB l && idB x) = true then (if 0 ≤ idx l x then 0 else 4) else 1
attribute [local go_sem] List.length_map rowAt_n nrow rowAt_t trow rowAt_i irow
attribute [local go_sem] pl_getF pl_lookF pl_lookF' foldI
theorem tre_w (l : List Nd) (t : Tok) : PCall Tryz.prog (.func 43) [.sl 5 (l.map nrow) t] (.bool (treB l)) := by
  refine PCall.le ?_
  refine fn_ Tryz.func43 (by rfl) (by rfl) (rs := [.tmp 2]) (by rfl) (by simp [Tryz.f43]) ?_
  refine sq ?_
  refine rg [0] [] [] (by kernel_rfl) ?_; intro κ ξ hκ hξ
  try simp +decide only [go_sem, Nat.reduceMul, Nat.reduceAdd, Nat.reduceBEq, cond_false]
  repeat with_reducible refine And.intro (by first | assumption | omega | (simp; done) | (simp; omega) | (intro hg; simp +decide only [go_sem, hg]; done) | (intro hg; simp +decide only [go_sem, hg]; omega)) ?_
  refine hκ _ _ ?_; clear hκ hξ ξ κ
  refine sq ?_
  cases ht : treB l
  · skip
    refine rg [4] [] [] (by kernel_rfl) ?_; intro κ ξ hκ hξ
    try simp +decide only [go_sem, Nat.reduceMul, Nat.reduceAdd, Nat.reduceBEq, cond_false, ht]
    repeat with_reducible refine And.intro (by first | assumption | omega | (simp; done) | (simp; omega) | (intro hg; simp +decide only [go_sem, hg]; done) | (intro hg; simp +decide only [go_sem, hg]; omega)) ?_
    refine callR (places_w _ _) fun b _ => ?_
    try simp +decide only [go_sem, Nat.reduceMul, Nat.reduceAdd, Nat.reduceBEq, cond_false, ht]
    repeat with_reducible refine And.intro (by first | assumption | omega | (simp; done) | (simp; omega) | (intro hg; simp +decide only [go_sem, hg]; done) | (intro hg; simp +decide only [go_sem, hg]; omega)) ?_
    refine hκ _ _ ?_; clear hκ hξ ξ κ
    refine sq ?_
    refine rg [2] [] [] (by kernel_rfl) ?_; intro κ ξ hκ hξ
    try simp +decide only [go_sem, Nat.reduceMul, Nat.reduceAdd, Nat.reduceBEq, cond_false, ht]
    repeat with_reducible refine And.intro (by first | assumption | omega | (simp; done) | (simp; omega) | (intro hg; simp +decide only [go_sem, hg]; done) | (intro hg; simp +decide only [go_sem, hg]; omega)) ?_
    refine hκ _ _ ?_; clear hκ hξ ξ κ
    refine rt ?_
    refine retE ?_
    simp +decide only [go_sem, resD, resV, ht]
    
  · skip
    refine rg [4] [] [] (by kernel_rfl) ?_; intro κ ξ hκ hξ
    try simp +decide only [go_sem, Nat.reduceMul, Nat.reduceAdd, Nat.reduceBEq, cond_false, ht]
    repeat with_reducible refine And.intro (by first | assumption | omega | (simp; done) | (simp; omega) | (intro hg; simp +decide only [go_sem, hg]; done) | (intro hg; simp +decide only [go_sem, hg]; omega)) ?_
    refine callR (places_w _ _) fun b _ => ?_
    try simp +decide only [go_sem, Nat.reduceMul, Nat.reduceAdd, Nat.reduceBEq, cond_false, ht]
    repeat with_reducible refine And.intro (by first | assumption | omega | (simp; done) | (simp; omega) | (intro hg; simp +decide only [go_sem, hg]; done) | (intro hg; simp +decide only [go_sem, hg]; omega)) ?_
    refine hκ _ _ ?_; clear hκ hξ ξ κ
    refine sq ?_
    refine rg [2] [] [] (by kernel_rfl) ?_; intro κ ξ hκ hξ
    try simp +decide only [go_sem, Nat.reduceMul, Nat.reduceAdd, Nat.reduceBEq, cond_false, ht]
    repeat with_reducible refine And.intro (by first | assumption | omega | (simp; done) | (simp; omega) | (intro hg; simp +decide only [go_sem, hg]; done) | (intro hg; simp +decide only [go_sem, hg]; omega)) ?_
    refine hκ _ _ ?_; clear hκ hξ ξ κ
    refine rt ?_
    refine retE ?_
    simp +decide only [go_sem, resD, resV, ht]
    

theorem dep_w (l : List Nd) (t : Tok) (hs : l.length ≤ 1000000) : PCall Tryz.prog (.func 60) [.sl 5 (l.map nrow) t] (bif depB l then .tup [.sl 1 ((depL l l.length).map irow) .no, .bool true] else .tup [.sl 0 [] .nil, .bool false]) := by
  refine PCall.ok fun hok => ?_
  simp only [okAll, D.ok, okRows, and_true, true_and, lim_eq, inR_i64', inR_i32', inR_u8', inR_u16', inR_u64'] at hok
  obtain ⟨hl, hr⟩ := hok
  refine PCall.le ?_
  refine fn_ Tryz.func60 (by rfl) (by rfl) (rs := [.tmp 2, .tmp 3]) (by rfl) (by simp [Tryz.f60]) ?_
  refine sq ?_
  refine rg [0] [] [] (by kernel_rfl) ?_; intro κ ξ hκ hξ
  try simp +decide only [go_sem, Nat.reduceMul, Nat.reduceAdd, Nat.reduceBEq, cond_false]
  repeat with_reducible refine And.intro (by first | assumption | omega | (simp; done) | (simp; omega) | (intro hg; simp +decide only [go_sem, hg]; done) | (intro hg; simp +decide only [go_sem, hg]; omega)) ?_
  refine hκ _ _ ?_; clear hκ hξ ξ κ
  refine sq ?_
  refine rg [0, 4] [] [] (by kernel_rfl) ?_; intro κ ξ hκ hξ
  try simp +decide only [go_sem, Nat.reduceMul, Nat.reduceAdd, Nat.reduceBEq, cond_false]
  repeat with_reducible refine And.intro (by first | assumption | omega | (simp; done) | (simp; omega) | (intro hg; simp +decide only [go_sem, hg]; done) | (intro hg; simp +decide only [go_sem, hg]; omega)) ?_
  refine hκ _ _ ?_; clear hκ hξ ξ κ
  refine sq ?_
  refine sq ?_
  refine rg [0, 4, 5] [] [] (by kernel_rfl) ?_; intro κ ξ hκ hξ
  try simp +decide only [go_sem, Nat.reduceMul, Nat.reduceAdd, Nat.reduceBEq, cond_false]
  repeat with_reducible refine And.intro (by first | assumption | omega | (simp; done) | (simp; omega) | (intro hg; simp +decide only [go_sem, hg]; done) | (intro hg; simp +decide only [go_sem, hg]; omega)) ?_
  refine hκ _ _ ?_; clear hκ hξ ξ κ
  refine bl ?_
  refine lp (α := Nat × Option (Nat × Nat)) (fun y => mk [(0, .sl 5 (l.map nrow) t), (4, apD 1 ((depL l y.1).map irow) y.2), (5, .int .i64 y.1)]) (fun y => apS 1 y.1 y.2) (fun y => (y.1 ≤ l.length ∧ apOK ((depL l y.1).map irow) y.2) ∧ (0 < y.1 → (nat l 0).par = 0 ∧ (nat l 0).kind = 1) ∧ ∀ j, 0 < j → j < y.1 → 0 ≤ pix l j ∧ stR (nat l j).kind (nat l (pix l j).toNat).kind = true) (fun y => l.length - y.1) (0, none) ⟨⟨⟨by omega, fun _ => rfl⟩, fun h => by omega, fun j h1 h2 => by omega⟩, EnvLe.of_eq rfl, .refl _⟩ ?_
  rintro ⟨i, o⟩ ⟨⟨hi, ho⟩, hro, hj⟩
  simp only at hi ho hro hj
  have hdl := depL_len l i
  refine sq ?_
  refine sq ?_
  refine rg [0, 4, 5, 10] [] [] (by kernel_rfl) ?_; intro κ ξ hκ hξ
  try simp +decide only [go_sem, Nat.reduceMul, Nat.reduceAdd, Nat.reduceBEq, cond_false]
  repeat with_reducible refine And.intro (by first | assumption | omega | (simp; done) | (simp; omega) | (intro hg; simp +decide only [go_sem, hg]; done) | (intro hg; simp +decide only [go_sem, hg]; omega)) ?_
  refine hκ _ _ ?_; clear hκ hξ ξ κ
  refine cd (by rfl) (fun c0 => ?_) (fun c0 => ?_)
  · try simp only [go_sem] at c0
    refine sk ?_
    refine sq ?_
    refine bl ?_
    refine sq ?_
    refine sq ?_
    refine rg [0, 4, 5, 14] [] [] (by kernel_rfl) ?_; intro κ ξ hκ hξ
    try simp +decide only [go_sem, Nat.reduceMul, Nat.reduceAdd, Nat.reduceBEq, cond_false, c0]
    repeat with_reducible refine And.intro (by first | assumption | omega | (simp; done) | (simp; omega) | (intro hg; simp +decide only [go_sem, hg]; done) | (intro hg; simp +decide only [go_sem, hg]; omega)) ?_
    refine hκ _ _ ?_; clear hκ hξ ξ κ
    refine cd (by rfl) (fun c1 => ?_) (fun c1 => ?_)
    · simp only [go_sem] at c1
      obtain rfl : i = 0 := by omega
      have hl2 : ((0 : Nat) : Int) < (l.length : Int) := by omega
      have hl3 : (0 : Int) < (l.length : Int) := by omega
      refine sq ?_
      refine rg [0, 4, 5] [] [] (by kernel_rfl) ?_; intro κ ξ hκ hξ
      try simp +decide only [go_sem, Nat.reduceMul, Nat.reduceAdd, Nat.reduceBEq, cond_false, c0, c1, hl2, hl3]
      repeat with_reducible refine And.intro (by first | assumption | omega | (simp; done) | (simp; omega) | (intro hg; simp +decide only [go_sem, hg]; done) | (intro hg; simp +decide only [go_sem, hg]; omega)) ?_
      refine napp_grow0 (by first | assumption | omega | (simp; done) | (simp; omega) | (intro hg; simp +decide only [go_sem, hg]; done) | (intro hg; simp +decide only [go_sem, hg]; omega)) (by first | (simp; done) | (simp [*]; done) | omega) rfl rfl (by simp +decide only [go_sem, Option.isSome_some]) tf409 tf410 tf36 (by refine ⟨⟨rfl, by decide, by decide⟩, by simp +decide only [go_sem], by simp, ?_⟩; simp [capB] <;> omega) ?_; intro b17 c17
      try simp +decide only [go_sem, Nat.reduceMul, Nat.reduceAdd, Nat.reduceBEq, cond_false, c0, c1, hl2, hl3]
      repeat with_reducible refine And.intro (by first | assumption | omega | (simp; done) | (simp; omega) | (intro hg; simp +decide only [go_sem, hg]; done) | (intro hg; simp +decide only [go_sem, hg]; omega)) ?_
      refine hκ _ _ ?_; clear hκ hξ ξ κ
      refine sq ?_
      refine sq ?_
      refine rg [0, 4, 5, 29] [] [(5, 23)] (by kernel_rfl) ?_; intro κ ξ hκ hξ
      try simp +decide only [go_sem, Nat.reduceMul, Nat.reduceAdd, Nat.reduceBEq, cond_false, c0, c1, hl2, hl3]
      repeat with_reducible refine And.intro (by first | assumption | omega | (simp; done) | (simp; omega) | (intro hg; simp +decide only [go_sem, hg]; done) | (intro hg; simp +decide only [go_sem, hg]; omega)) ?_
      refine hκ _ _ ?_; clear hκ hξ ξ κ
      refine cd (by rfl) (fun c2 => ?_) (fun c2 => ?_)
      · try simp only [go_sem] at c2
        refine sq ?_
        refine rg [2, 3] [] [] (by kernel_rfl) ?_; intro κ ξ hκ hξ
        try simp +decide only [go_sem, Nat.reduceMul, Nat.reduceAdd, Nat.reduceBEq, cond_false, c0, c1, hl2, hl3, c2]
        repeat with_reducible refine And.intro (by first | assumption | omega | (simp; done) | (simp; omega) | (intro hg; simp +decide only [go_sem, hg]; done) | (intro hg; simp +decide only [go_sem, hg]; omega)) ?_
        refine hκ _ _ ?_; clear hκ hξ ξ κ
        refine rt ?_
        refine retE ?_
        simp +decide only [go_sem, resD, resV, c0, c1, hl2, hl3, c2]
        have hb : depB l = false := by
          rw [← Bool.not_eq_true, depB_true]
          rintro ⟨h, _⟩
          rcases h with h | h
          · omega
          · omega
        rw [hb]; rfl
      · try simp only [go_sem] at c2
        refine sk ?_
        refine ex ?_
        refine rg [0, 4, 5] [] [] (by kernel_rfl) ?_; intro κ ξ hκ hξ
        try simp +decide only [go_sem, Nat.reduceMul, Nat.reduceAdd, Nat.reduceBEq, cond_false, c0, c1, hl2, hl3, c2]
        repeat with_reducible refine And.intro (by first | assumption | omega | (simp; done) | (simp; omega) | (intro hg; simp +decide only [go_sem, hg]; done) | (intro hg; simp +decide only [go_sem, hg]; omega)) ?_
        refine hκ _ _ ?_; clear hκ hξ ξ κ
        refine ⟨(0 + 1, some (b17, c17)), ⟨⟨⟨by omega, fun h => by cases h⟩, fun _ => c2, fun j h1 h2 => by simp only at h2; omega⟩, by simp only; omega⟩, EnvLe.of_eq ?_, ?_⟩
        · rw [w64 (by omega), depL_succ, dpt_zero]; rfl
        · exact .refl _
    · simp only [go_sem] at c1
      obtain ⟨⟨bo, co⟩, rfl⟩ : ∃ p, o = some p := by
        cases o with
        | none =>
          have := ho rfl
          simp [depL] at this
          omega
        | some p => exact ⟨p, rfl⟩
      have hpl := pix_lt l i
      have hpg := pix_ge l i
      refine sk ?_
      refine sq ?_
      refine rgd [0, 4, 5, 6] [] [38] [] (by kernel_rfl) (by kernel_rfl) ?_; intro κ ξ hκ hξ
      try simp +decide only [go_sem, Nat.reduceMul, Nat.reduceAdd, Nat.reduceBEq, cond_false, c0, c1]
      repeat with_reducible refine And.intro (by first | assumption | omega | (simp; done) | (simp; omega) | (intro hg; simp +decide only [go_sem, hg]; done) | (intro hg; simp +decide only [go_sem, hg]; omega)) ?_
      refine scallF (ridx_w _ _ _) ?_
      try simp +decide only [go_sem, Nat.reduceMul, Nat.reduceAdd, Nat.reduceBEq, cond_false, c0, c1]
      repeat with_reducible refine And.intro (by first | assumption | omega | (simp; done) | (simp; omega) | (intro hg; simp +decide only [go_sem, hg]; done) | (intro hg; simp +decide only [go_sem, hg]; omega)) ?_
      have hpd : idx (List.take i l) (nat l i).par = pix l i := rfl
      refine hκ _ _ ?_; clear hκ hξ ξ κ
      refine sq ?_
      refine sq ?_
      by_cases hp : 0 ≤ pix l i
      · obtain ⟨k, hk, hki⟩ : ∃ k : Nat, pix l i = (k : Int) ∧ k < i := ⟨(pix l i).toNat, by omega, by omega⟩
        have hkl : (k : Int) < (l.length : Int) := by omega
        have hkn : ¬ (k : Int) < 0 := by omega
        have hkd : (k : Int) < ((depL l i).length : Int) := by omega
        have hkv : iat (depL l i) k = dpt l k := depL_at hki
        have hdk := dpt_le l k
        have hd1 := dpt_pos l k
        have hkw : IntKind.wrap .i64 (dpt l k + 1) = dpt l i := by
          rw [w64 (by omega), dpt_eq l i, if_pos hp, hk, Int.toNat_natCast]
        refine rgd [0, 4, 5, 6, 54] [] [52] [(2, 41)] (by kernel_rfl) (by kernel_rfl) ?_; intro κ ξ hκ hξ
        try simp +decide only [go_sem, Nat.reduceMul, Nat.reduceAdd, Nat.reduceBEq, cond_false, c0, c1, hpd, hk, hkl, hkn, hkd, hkv, hkw, apD]
        repeat with_reducible refine And.intro (by first | assumption | omega | (simp; done) | (simp; omega) | (intro hg; simp +decide only [go_sem, hg]; done) | (intro hg; simp +decide only [go_sem, hg]; omega)) ?_
        first
        | (refine vd_gc (by rfl) ?_; simp +decide only [go_sem, c0, c1, hpd, hk, hkl, hkn, hkd, hkv, hkw, apD]; refine gcallF (fun hg => ⟨by first | rfl | (simp +decide only [go_sem, hg, c0, c1, hpd, hk, hkl, hkn, hkd, hkv, hkw, apD]; done) | exact hg | simpa using hg, rstands_w _ _⟩) ?_)
        | (refine vd_gc (by rfl) ?_; simp +decide only [go_sem, c0, c1, hpd, hk, hkl, hkn, hkd, hkv, hkw, apD]; refine gcallF (d := .bool true) (fun hg => by first | cases hg | (simp at hg; done)) ?_)
        try simp +decide only [go_sem, Nat.reduceMul, Nat.reduceAdd, Nat.reduceBEq, cond_false, c0, c1, hpd, hk, hkl, hkn, hkd, hkv, hkw, apD]
        repeat with_reducible refine And.intro (by first | assumption | omega | (simp; done) | (simp; omega) | (intro hg; simp +decide only [go_sem, hg]; done) | (intro hg; simp +decide only [go_sem, hg]; omega)) ?_
        refine hκ _ _ ?_; clear hκ hξ ξ κ
        refine cd (by rfl) (fun c3 => ?_) (fun c3 => ?_)
        · try simp only [go_sem] at c3
          refine sq ?_
          refine rg [2, 3] [] [] (by kernel_rfl) ?_; intro κ ξ hκ hξ
          try simp +decide only [go_sem, Nat.reduceMul, Nat.reduceAdd, Nat.reduceBEq, cond_false, c0, c1, hpd, hk, hkl, hkn, hkd, hkv, hkw, apD, c3]
          repeat with_reducible refine And.intro (by first | assumption | omega | (simp; done) | (simp; omega) | (intro hg; simp +decide only [go_sem, hg]; done) | (intro hg; simp +decide only [go_sem, hg]; omega)) ?_
          refine hκ _ _ ?_; clear hκ hξ ξ κ
          refine rt ?_
          refine retE ?_
          simp +decide only [go_sem, resD, resV, c0, c1, hpd, hk, hkl, hkn, hkd, hkv, hkw, apD, c3]
          have hb : depB l = false := by
            rw [← Bool.not_eq_true, depB_true]
            rintro ⟨_, h⟩
            have := (h i (by omega) (by omega)).2
            rw [hk, Int.toNat_natCast] at this
            rw [this] at c3
            cases c3
          rw [hb]; rfl
        · try simp only [go_sem] at c3
          refine sk ?_
          refine rg [0, 4, 5] [] [] (by kernel_rfl) ?_; intro κ ξ hκ hξ
          try simp +decide only [go_sem, Nat.reduceMul, Nat.reduceAdd, Nat.reduceBEq, cond_false, c0, c1, hpd, hk, hkl, hkn, hkd, hkv, hkw, apD, c3]
          repeat with_reducible refine And.intro (by first | assumption | omega | (simp; done) | (simp; omega) | (intro hg; simp +decide only [go_sem, hg]; done) | (intro hg; simp +decide only [go_sem, hg]; omega)) ?_
          refine napp_grow0 (o := some (bo, co)) (by first | assumption | omega | (simp; done) | (simp; omega) | (intro hg; simp +decide only [go_sem, hg]; done) | (intro hg; simp +decide only [go_sem, hg]; omega)) (by first | (simp; done) | (simp [*]; done) | omega) rfl rfl (by simp +decide only [go_sem, Option.isSome_some]) tf409 tf410 tf36 (by refine ⟨⟨rfl, by decide, by decide⟩, by simp +decide only [go_sem], by simp, ?_⟩; simp [capB] <;> omega) ?_; intro b62 c62
          try simp +decide only [go_sem, Nat.reduceMul, Nat.reduceAdd, Nat.reduceBEq, cond_false, c0, c1, hpd, hk, hkl, hkn, hkd, hkv, hkw, apD, c3]
          repeat with_reducible refine And.intro (by first | assumption | omega | (simp; done) | (simp; omega) | (intro hg; simp +decide only [go_sem, hg]; done) | (intro hg; simp +decide only [go_sem, hg]; omega)) ?_
          refine hκ _ _ ?_; clear hκ hξ ξ κ
          refine rg [0, 4, 5] [] [] (by kernel_rfl) ?_; intro κ ξ hκ hξ
          try simp +decide only [go_sem, Nat.reduceMul, Nat.reduceAdd, Nat.reduceBEq, cond_false, c0, c1, hpd, hk, hkl, hkn, hkd, hkv, hkw, apD, c3]
          repeat with_reducible refine And.intro (by first | assumption | omega | (simp; done) | (simp; omega) | (intro hg; simp +decide only [go_sem, hg]; done) | (intro hg; simp +decide only [go_sem, hg]; omega)) ?_
          refine hκ _ _ ?_; clear hκ hξ ξ κ
          refine ⟨(i + 1, some (b62, c62)), ⟨⟨⟨by omega, fun h => by cases h⟩, fun _ => hro (by omega), fun j h1 h2 => ?_⟩, by simp only; omega⟩, EnvLe.of_eq ?_, ?_⟩
          · rcases Nat.lt_succ_iff_lt_or_eq.1 h2 with h | rfl
            · exact hj j h1 h
            · rw [hk, Int.toNat_natCast]; exact ⟨by omega, c3⟩
          · rw [w64 (by omega), depL_succ, List.map_append]; rfl
          · exact .refl _
      · have hpn : pix l i < 0 := by omega
        refine rgd [0, 4, 5, 6, 54] [] [52] [(2, 41)] (by kernel_rfl) (by kernel_rfl) ?_; intro κ ξ hκ hξ
        try simp +decide only [go_sem, Nat.reduceMul, Nat.reduceAdd, Nat.reduceBEq, cond_false, c0, c1, hpd, hpn]
        repeat with_reducible refine And.intro (by first | assumption | omega | (simp; done) | (simp; omega) | (intro hg; simp +decide only [go_sem, hg]; done) | (intro hg; simp +decide only [go_sem, hg]; omega)) ?_
        first
        | (refine vd_gc (by rfl) ?_; simp +decide only [go_sem, c0, c1, hpd, hpn]; refine gcallF (fun hg => ⟨by first | rfl | (simp +decide only [go_sem, hg, c0, c1, hpd, hpn]; done) | exact hg | simpa using hg, rstands_w _ _⟩) ?_)
        | (refine vd_gc (by rfl) ?_; simp +decide only [go_sem, c0, c1, hpd, hpn]; refine gcallF (d := .bool true) (fun hg => by first | cases hg | (simp at hg; done)) ?_)
        try simp +decide only [go_sem, Nat.reduceMul, Nat.reduceAdd, Nat.reduceBEq, cond_false, c0, c1, hpd, hpn]
        repeat with_reducible refine And.intro (by first | assumption | omega | (simp; done) | (simp; omega) | (intro hg; simp +decide only [go_sem, hg]; done) | (intro hg; simp +decide only [go_sem, hg]; omega)) ?_
        refine hκ _ _ ?_; clear hκ hξ ξ κ
        refine cdt (by rfl) ?_
        refine sq ?_
        refine rg [2, 3] [] [] (by kernel_rfl) ?_; intro κ ξ hκ hξ
        try simp +decide only [go_sem, Nat.reduceMul, Nat.reduceAdd, Nat.reduceBEq, cond_false, c0, c1, hpd, hpn]
        repeat with_reducible refine And.intro (by first | assumption | omega | (simp; done) | (simp; omega) | (intro hg; simp +decide only [go_sem, hg]; done) | (intro hg; simp +decide only [go_sem, hg]; omega)) ?_
        refine hκ _ _ ?_; clear hκ hξ ξ κ
        refine rt ?_
        refine retE ?_
        simp +decide only [go_sem, resD, resV, c0, c1, hpd, hpn]
        have hb : depB l = false := by
          rw [← Bool.not_eq_true, depB_true]
          rintro ⟨_, h⟩
          have := (h i (by omega) (by omega)).1
          omega
        rw [hb]; rfl
  · try simp only [go_sem] at c0
    refine ex ?_
    refine sq ?_
    refine rg [2, 3] [] [] (by kernel_rfl) ?_; intro κ ξ hκ hξ
    try simp +decide only [go_sem, Nat.reduceMul, Nat.reduceAdd, Nat.reduceBEq, cond_false, c0]
    repeat with_reducible refine And.intro (by first | assumption | omega | (simp; done) | (simp; omega) | (intro hg; simp +decide only [go_sem, hg]; done) | (intro hg; simp +decide only [go_sem, hg]; omega)) ?_
    refine hκ _ _ ?_; clear hκ hξ ξ κ
    refine rt ?_
    refine retL ?_
    simp +decide only [go_sem, resD, resV, c0]
    have hb : depB l = true := by
      rw [depB_true]
      obtain rfl : i = l.length := by omega
      exact ⟨by omega, fun j h1 h2 => hj j h1 h2⟩
    obtain rfl : i = l.length := by omega
    rw [hb]
    exact DLe.tup ⟨apD_le 1 ho, DLe.refl _, trivial⟩

end Go.Proofs.YtjjkgeeafjagkaaGreat
/- The walks of the reference's Valid, Find and Kids. Printed by a tool of our own. -/
namespace Go.Proofs.YtjjkgeeafjagkaaGreat
open Go Go.RowKit
set_option linter.unusedSimpArgs false
set_option linter.unusedVariables false
set_option maxHeartbeats 4000000
set_option maxRecDepth 100000
attribute [local go_sem] List.length_map rowAt_n nrow rowAt_t trow rowAt_i irow
attribute [local go_sem] pl_getF pl_lookF pl_lookF' foldI
theorem rtre_w (l : List Nd) (t : Tok) : PCall Tryz.prog (.func 38) [.sl 5 (l.map nrow) t] (.bool (treB l)) := by
  refine PCall.ok fun hok => ?_
  simp only [okAll, D.ok, okRows, and_true, true_and, lim_eq, inR_i64', inR_i32', inR_u8', inR_u16', inR_u64'] at hok
  obtain ⟨hl, hr⟩ := hok; rw [List.length_map] at hl
  refine PCall.le ?_
  refine fn_ Tryz.func38 (by rfl) (by rfl) (rs := [.tmp 2]) (by rfl) (by simp [Tryz.f38]) ?_
  refine sq ?_
  refine rg [0] [] [] (by kernel_rfl) ?_; intro κ ξ hκ hξ
  try simp +decide only [go_sem, Nat.reduceMul, Nat.reduceAdd, Nat.reduceBEq, cond_false, Option.toArray_none, Option.toArray_some, Array.toList_append, List.all_append, List.all_cons, List.all_nil, Bool.and_true]
  repeat with_reducible refine And.intro (by first | assumption | omega | (simp; done) | (simp; omega) | (intro hg; simp +decide only [go_sem, hg]; done) | (intro hg; simp +decide only [go_sem, hg]; omega)) ?_
  refine hκ _ _ ?_; clear hκ hξ ξ κ
  refine sq ?_
  refine sq ?_
  refine rg [0, 15] [] [(3, 11)] (by kernel_rfl) ?_; intro κ ξ hκ hξ
  try simp +decide only [go_sem, Nat.reduceMul, Nat.reduceAdd, Nat.reduceBEq, cond_false, Option.toArray_none, Option.toArray_some, Array.toList_append, List.all_append, List.all_cons, List.all_nil, Bool.and_true]
  repeat with_reducible refine And.intro (by first | assumption | omega | (simp; done) | (simp; omega) | (intro hg; simp +decide only [go_sem, hg]; done) | (intro hg; simp +decide only [go_sem, hg]; omega)) ?_
  refine hκ _ _ ?_; clear hκ hξ ξ κ
  refine cd (by rfl) (fun c0 => ?_) (fun c0 => ?_)
  · try simp only [go_sem] at c0
    refine sq ?_
    refine rg [2] [] [] (by kernel_rfl) ?_; intro κ ξ hκ hξ
    try simp +decide only [go_sem, Nat.reduceMul, Nat.reduceAdd, Nat.reduceBEq, cond_false, Option.toArray_none, Option.toArray_some, Array.toList_append, List.all_append, List.all_cons, List.all_nil, Bool.and_true, c0]
    repeat with_reducible refine And.intro (by first | assumption | omega | (simp; done) | (simp; omega) | (intro hg; simp +decide only [go_sem, hg]; done) | (intro hg; simp +decide only [go_sem, hg]; omega)) ?_
    refine hκ _ _ ?_; clear hκ hξ ξ κ
    refine rt ?_
    refine retE ?_
    simp +decide only [go_sem, resD, resV, Option.toArray_none, Option.toArray_some, Array.toList_append, List.all_append, List.all_cons, List.all_nil, Bool.and_true, c0]
    have hb : treB l = false := by
      rw [← Bool.not_eq_true, treB_true]
      intro h
      have := h.len
      omega
    simp [hb]
  · try simp only [go_sem] at c0
    refine sk ?_
    refine sq ?_
    refine sq ?_
    refine rg [0, 3] [] [] (by kernel_rfl) ?_; intro κ ξ hκ hξ
    try simp +decide only [go_sem, Nat.reduceMul, Nat.reduceAdd, Nat.reduceBEq, cond_false, Option.toArray_none, Option.toArray_some, Array.toList_append, List.all_append, List.all_cons, List.all_nil, Bool.and_true, c0]
    repeat with_reducible refine And.intro (by first | assumption | omega | (simp; done) | (simp; omega) | (intro hg; simp +decide only [go_sem, hg]; done) | (intro hg; simp +decide only [go_sem, hg]; omega)) ?_
    refine hκ _ _ ?_; clear hκ hξ ξ κ
    refine bl ?_
    refine lp (α := Nat) (fun i => mk [(0, .sl 5 (l.map nrow) t), (3, .int .i64 i)]) (fun _ => []) (fun i => i ≤ l.length ∧ ∀ j, j < i → fmB (nat l j) = true ∧ idx (l.take j) (nat l j).id = -1) (fun i => l.length - i) 0 ⟨⟨by omega, fun j h => by omega⟩, EnvLe.of_eq rfl, .refl _⟩ ?_
    rintro i ⟨hi, hj⟩
    refine sq ?_
    refine sq ?_
    refine rg [0, 3, 19] [] [] (by kernel_rfl) ?_; intro κ ξ hκ hξ
    try simp +decide only [go_sem, Nat.reduceMul, Nat.reduceAdd, Nat.reduceBEq, cond_false, Option.toArray_none, Option.toArray_some, Array.toList_append, List.all_append, List.all_cons, List.all_nil, Bool.and_true, c0]
    repeat with_reducible refine And.intro (by first | assumption | omega | (simp; done) | (simp; omega) | (intro hg; simp +decide only [go_sem, hg]; done) | (intro hg; simp +decide only [go_sem, hg]; omega)) ?_
    refine hκ _ _ ?_; clear hκ hξ ξ κ
    refine cd (by rfl) (fun c1 => ?_) (fun c1 => ?_)
    · try simp only [go_sem] at c1
      refine sk ?_
      refine sq ?_
      refine bl ?_
      refine sq ?_
      refine rg [0, 3, 4] [] [] (by kernel_rfl) ?_; intro κ ξ hκ hξ
      try simp +decide only [go_sem, Nat.reduceMul, Nat.reduceAdd, Nat.reduceBEq, cond_false, Option.toArray_none, Option.toArray_some, Array.toList_append, List.all_append, List.all_cons, List.all_nil, Bool.and_true, c0, c1]
      repeat with_reducible refine And.intro (by first | assumption | omega | (simp; done) | (simp; omega) | (intro hg; simp +decide only [go_sem, hg]; done) | (intro hg; simp +decide only [go_sem, hg]; omega)) ?_
      refine callF (rnode_w _) ?_
      try simp +decide only [go_sem, Nat.reduceMul, Nat.reduceAdd, Nat.reduceBEq, cond_false, Option.toArray_none, Option.toArray_some, Array.toList_append, List.all_append, List.all_cons, List.all_nil, Bool.and_true, c0, c1]
      repeat with_reducible refine And.intro (by first | assumption | omega | (simp; done) | (simp; omega) | (intro hg; simp +decide only [go_sem, hg]; done) | (intro hg; simp +decide only [go_sem, hg]; omega)) ?_
      refine hκ _ _ ?_; clear hκ hξ ξ κ
      refine sq ?_
      refine rgd [0, 3, 40] [] [38] [(2, 29)] (by kernel_rfl) (by kernel_rfl) ?_; intro κ ξ hκ hξ
      try simp +decide only [go_sem, Nat.reduceMul, Nat.reduceAdd, Nat.reduceBEq, cond_false, Option.toArray_none, Option.toArray_some, Array.toList_append, List.all_append, List.all_cons, List.all_nil, Bool.and_true, c0, c1]
      repeat with_reducible refine And.intro (by first | assumption | omega | (simp; done) | (simp; omega) | (intro hg; simp +decide only [go_sem, hg]; done) | (intro hg; simp +decide only [go_sem, hg]; omega)) ?_
      refine vd_gc (by rfl) ?_; simp +decide only [go_sem, Option.toArray_none, Option.toArray_some, Array.toList_append, List.all_append, List.all_cons, List.all_nil, Bool.and_true, c0, c1]; refine gcallF (fun hg => ⟨by first | rfl | (simp +decide only [go_sem, hg, Option.toArray_none, Option.toArray_some, Array.toList_append, List.all_append, List.all_cons, List.all_nil, Bool.and_true, c0, c1]; done) | exact hg | simpa using hg, ridx_w _ _ _⟩) ?_
      try simp +decide only [go_sem, Nat.reduceMul, Nat.reduceAdd, Nat.reduceBEq, cond_false, Option.toArray_none, Option.toArray_some, Array.toList_append, List.all_append, List.all_cons, List.all_nil, Bool.and_true, c0, c1]
      repeat with_reducible refine And.intro (by first | assumption | omega | (simp; done) | (simp; omega) | (intro hg; simp +decide only [go_sem, hg]; done) | (intro hg; simp +decide only [go_sem, hg]; omega)) ?_
      refine hκ _ _ ?_; clear hκ hξ ξ κ
      refine cd (by rfl) (fun c2 => ?_) (fun c2 => ?_)
      · try simp only [go_sem] at c2
        refine sq ?_
        refine rg [2] [] [] (by kernel_rfl) ?_; intro κ ξ hκ hξ
        try simp +decide only [go_sem, Nat.reduceMul, Nat.reduceAdd, Nat.reduceBEq, cond_false, Option.toArray_none, Option.toArray_some, Array.toList_append, List.all_append, List.all_cons, List.all_nil, Bool.and_true, c0, c1, c2]
        repeat with_reducible refine And.intro (by first | assumption | omega | (simp; done) | (simp; omega) | (intro hg; simp +decide only [go_sem, hg]; done) | (intro hg; simp +decide only [go_sem, hg]; omega)) ?_
        refine hκ _ _ ?_; clear hκ hξ ξ κ
        refine rt ?_
        refine retE ?_
        simp +decide only [go_sem, resD, resV, Option.toArray_none, Option.toArray_some, Array.toList_append, List.all_append, List.all_cons, List.all_nil, Bool.and_true, c0, c1, c2]
        have hb : treB l = false := by
          rw [← Bool.not_eq_true, treB_true]
          intro h
          have h1 := h.form i (by omega)
          have h2 := h.once i (by omega)
          simp [h1, h2] at c2
        simp [hb]
      · try simp only [go_sem] at c2
        refine sk ?_
        refine rg [0, 3] [] [] (by kernel_rfl) ?_; intro κ ξ hκ hξ
        try simp +decide only [go_sem, Nat.reduceMul, Nat.reduceAdd, Nat.reduceBEq, cond_false, Option.toArray_none, Option.toArray_some, Array.toList_append, List.all_append, List.all_cons, List.all_nil, Bool.and_true, c0, c1, c2]
        repeat with_reducible refine And.intro (by first | assumption | omega | (simp; done) | (simp; omega) | (intro hg; simp +decide only [go_sem, hg]; done) | (intro hg; simp +decide only [go_sem, hg]; omega)) ?_
        refine hκ _ _ ?_; clear hκ hξ ξ κ
        refine ⟨i + 1, ⟨⟨by omega, fun j h => ?_⟩, by omega⟩, EnvLe.of_eq (by rw [w64 (by omega)]; rfl), .refl _⟩
        rcases Nat.lt_succ_iff_lt_or_eq.1 h with h | rfl
        · exact hj j h
        · have := idx_ge (l.take j) (nat l j).id
          cases hf : fmB (nat l j) <;> simp [hf] at c2 ⊢
          omega
    · try simp only [go_sem] at c1
      refine ex ?_
      refine sq ?_
      have hdl := depL_len l l.length
      cases hd : depB l
      · skip
        refine rg [5, 6] [] [] (by kernel_rfl) ?_; intro κ ξ hκ hξ
        try simp +decide only [go_sem, Nat.reduceMul, Nat.reduceAdd, Nat.reduceBEq, cond_false, Option.toArray_none, Option.toArray_some, Array.toList_append, List.all_append, List.all_cons, List.all_nil, Bool.and_true, c0, c1, hd, hdl]
        repeat with_reducible refine And.intro (by first | assumption | omega | (simp; done) | (simp; omega) | (intro hg; simp +decide only [go_sem, hg]; done) | (intro hg; simp +decide only [go_sem, hg]; omega)) ?_
        refine callF (dep_w _ _ (by omega)) ?_
        try simp +decide only [go_sem, Nat.reduceMul, Nat.reduceAdd, Nat.reduceBEq, cond_false, Option.toArray_none, Option.toArray_some, Array.toList_append, List.all_append, List.all_cons, List.all_nil, Bool.and_true, c0, c1, hd, hdl]
        repeat with_reducible refine And.intro (by first | assumption | omega | (simp; done) | (simp; omega) | (intro hg; simp +decide only [go_sem, hg]; done) | (intro hg; simp +decide only [go_sem, hg]; omega)) ?_
        refine hκ _ _ ?_; clear hκ hξ ξ κ
        refine sq ?_
        refine sq ?_
        refine rg [5, 6, 7] [] [] (by kernel_rfl) ?_; intro κ ξ hκ hξ
        try simp +decide only [go_sem, Nat.reduceMul, Nat.reduceAdd, Nat.reduceBEq, cond_false, Option.toArray_none, Option.toArray_some, Array.toList_append, List.all_append, List.all_cons, List.all_nil, Bool.and_true, c0, c1, hd, hdl]
        repeat with_reducible refine And.intro (by first | assumption | omega | (simp; done) | (simp; omega) | (intro hg; simp +decide only [go_sem, hg]; done) | (intro hg; simp +decide only [go_sem, hg]; omega)) ?_
        refine hκ _ _ ?_; clear hκ hξ ξ κ
        refine bl ?_
        refine lp (α := Nat) (fun i => mk [(5, .sl 0 [] .nil), (6, .bool false), (7, .int .i64 i)]) (fun _ => []) (fun i => i = 0) (fun i => 0) 0 ⟨rfl, EnvLe.of_eq rfl, .refl _⟩ ?_
        rintro i rfl
        refine sq ?_
        refine sq ?_
        refine rg [5, 6, 7, 49] [] [] (by kernel_rfl) ?_; intro κ ξ hκ hξ
        try simp +decide only [go_sem, Nat.reduceMul, Nat.reduceAdd, Nat.reduceBEq, cond_false, Option.toArray_none, Option.toArray_some, Array.toList_append, List.all_append, List.all_cons, List.all_nil, Bool.and_true, c0, c1, hd, hdl]
        repeat with_reducible refine And.intro (by first | assumption | omega | (simp; done) | (simp; omega) | (intro hg; simp +decide only [go_sem, hg]; done) | (intro hg; simp +decide only [go_sem, hg]; omega)) ?_
        refine hκ _ _ ?_; clear hκ hξ ξ κ
        refine cd (by rfl) (fun c3 => ?_) (fun c3 => ?_)
        · exfalso; revert c3; simp
        · skip
          refine ex ?_
          refine sq ?_
          refine rg [2] [] [] (by kernel_rfl) ?_; intro κ ξ hκ hξ
          try simp +decide only [go_sem, Nat.reduceMul, Nat.reduceAdd, Nat.reduceBEq, cond_false, Option.toArray_none, Option.toArray_some, Array.toList_append, List.all_append, List.all_cons, List.all_nil, Bool.and_true, c0, c1, hd, hdl, c3]
          repeat with_reducible refine And.intro (by first | assumption | omega | (simp; done) | (simp; omega) | (intro hg; simp +decide only [go_sem, hg]; done) | (intro hg; simp +decide only [go_sem, hg]; omega)) ?_
          refine hκ _ _ ?_; clear hκ hξ ξ κ
          refine rt ?_
          refine retE ?_
          simp +decide only [go_sem, resD, resV, Option.toArray_none, Option.toArray_some, Array.toList_append, List.all_append, List.all_cons, List.all_nil, Bool.and_true, c0, c1, hd, hdl, c3]
          have h2 := tre_dep (by omega) (fun j hjl => hj j (by omega))
          rw [hd] at h2
          simp [h2]
      · skip
        refine rg [5, 6] [] [] (by kernel_rfl) ?_; intro κ ξ hκ hξ
        try simp +decide only [go_sem, Nat.reduceMul, Nat.reduceAdd, Nat.reduceBEq, cond_false, Option.toArray_none, Option.toArray_some, Array.toList_append, List.all_append, List.all_cons, List.all_nil, Bool.and_true, c0, c1, hd, hdl]
        repeat with_reducible refine And.intro (by first | assumption | omega | (simp; done) | (simp; omega) | (intro hg; simp +decide only [go_sem, hg]; done) | (intro hg; simp +decide only [go_sem, hg]; omega)) ?_
        refine callF (dep_w _ _ (by omega)) ?_
        try simp +decide only [go_sem, Nat.reduceMul, Nat.reduceAdd, Nat.reduceBEq, cond_false, Option.toArray_none, Option.toArray_some, Array.toList_append, List.all_append, List.all_cons, List.all_nil, Bool.and_true, c0, c1, hd, hdl]
        repeat with_reducible refine And.intro (by first | assumption | omega | (simp; done) | (simp; omega) | (intro hg; simp +decide only [go_sem, hg]; done) | (intro hg; simp +decide only [go_sem, hg]; omega)) ?_
        refine hκ _ _ ?_; clear hκ hξ ξ κ
        refine sq ?_
        refine sq ?_
        refine rg [5, 6, 7] [] [] (by kernel_rfl) ?_; intro κ ξ hκ hξ
        try simp +decide only [go_sem, Nat.reduceMul, Nat.reduceAdd, Nat.reduceBEq, cond_false, Option.toArray_none, Option.toArray_some, Array.toList_append, List.all_append, List.all_cons, List.all_nil, Bool.and_true, c0, c1, hd, hdl]
        repeat with_reducible refine And.intro (by first | assumption | omega | (simp; done) | (simp; omega) | (intro hg; simp +decide only [go_sem, hg]; done) | (intro hg; simp +decide only [go_sem, hg]; omega)) ?_
        refine hκ _ _ ?_; clear hκ hξ ξ κ
        refine bl ?_
        refine lp (α := Nat) (fun i => mk [(5, .sl 1 ((depL l l.length).map irow) .no), (6, .bool true), (7, .int .i64 i)]) (fun _ => []) (fun i => i ≤ l.length ∧ ∀ j, j < i → dpt l j ≤ 30) (fun i => l.length - i) 0 ⟨⟨by omega, fun j h => by omega⟩, EnvLe.of_eq rfl, .refl _⟩ ?_
        rintro i ⟨hi, hj2⟩
        refine sq ?_
        refine sq ?_
        refine rg [5, 6, 7, 49] [] [] (by kernel_rfl) ?_; intro κ ξ hκ hξ
        try simp +decide only [go_sem, Nat.reduceMul, Nat.reduceAdd, Nat.reduceBEq, cond_false, Option.toArray_none, Option.toArray_some, Array.toList_append, List.all_append, List.all_cons, List.all_nil, Bool.and_true, c0, c1, hd, hdl]
        repeat with_reducible refine And.intro (by first | assumption | omega | (simp; done) | (simp; omega) | (intro hg; simp +decide only [go_sem, hg]; done) | (intro hg; simp +decide only [go_sem, hg]; omega)) ?_
        refine hκ _ _ ?_; clear hκ hξ ξ κ
        refine cd (by rfl) (fun c4 => ?_) (fun c4 => ?_)
        · simp only [go_sem, hdl] at c4
          have hdi : iat (depL l l.length) i = dpt l i := depL_at (by omega)
          have hdb : (i : Int) < (depL l l.length).length := by rw [hdl]; omega
          refine sk ?_
          refine sq ?_
          refine bl ?_
          refine sq ?_
          refine rg [5, 6, 7, 56] [] [] (by kernel_rfl) ?_; intro κ ξ hκ hξ
          try simp +decide only [go_sem, Nat.reduceMul, Nat.reduceAdd, Nat.reduceBEq, cond_false, Option.toArray_none, Option.toArray_some, Array.toList_append, List.all_append, List.all_cons, List.all_nil, Bool.and_true, c0, c1, hd, hdl, c4, hdi, hdb]
          repeat with_reducible refine And.intro (by first | assumption | omega | (simp; done) | (simp; omega) | (intro hg; simp +decide only [go_sem, hg]; done) | (intro hg; simp +decide only [go_sem, hg]; omega)) ?_
          refine hκ _ _ ?_; clear hκ hξ ξ κ
          refine cd (by rfl) (fun c5 => ?_) (fun c5 => ?_)
          · try simp only [go_sem] at c5
            refine sq ?_
            refine rg [2] [] [] (by kernel_rfl) ?_; intro κ ξ hκ hξ
            try simp +decide only [go_sem, Nat.reduceMul, Nat.reduceAdd, Nat.reduceBEq, cond_false, Option.toArray_none, Option.toArray_some, Array.toList_append, List.all_append, List.all_cons, List.all_nil, Bool.and_true, c0, c1, hd, hdl, c4, hdi, hdb, c5]
            repeat with_reducible refine And.intro (by first | assumption | omega | (simp; done) | (simp; omega) | (intro hg; simp +decide only [go_sem, hg]; done) | (intro hg; simp +decide only [go_sem, hg]; omega)) ?_
            refine hκ _ _ ?_; clear hκ hξ ξ κ
            refine rt ?_
            refine retE ?_
            simp +decide only [go_sem, resD, resV, Option.toArray_none, Option.toArray_some, Array.toList_append, List.all_append, List.all_cons, List.all_nil, Bool.and_true, c0, c1, hd, hdl, c4, hdi, hdb, c5]
            have hb : treB l = false := by
              rw [← Bool.not_eq_true, treB_true]
              intro h
              have := h.deep i (by omega)
              omega
            simp [hb]
          · try simp only [go_sem] at c5
            refine sk ?_
            refine rg [5, 6, 7] [] [] (by kernel_rfl) ?_; intro κ ξ hκ hξ
            try simp +decide only [go_sem, Nat.reduceMul, Nat.reduceAdd, Nat.reduceBEq, cond_false, Option.toArray_none, Option.toArray_some, Array.toList_append, List.all_append, List.all_cons, List.all_nil, Bool.and_true, c0, c1, hd, hdl, c4, hdi, hdb, c5]
            repeat with_reducible refine And.intro (by first | assumption | omega | (simp; done) | (simp; omega) | (intro hg; simp +decide only [go_sem, hg]; done) | (intro hg; simp +decide only [go_sem, hg]; omega)) ?_
            refine hκ _ _ ?_; clear hκ hξ ξ κ
            refine ⟨i + 1, ⟨⟨by omega, fun j h => ?_⟩, by omega⟩, EnvLe.of_eq (by rw [w64 (by omega)]; rfl), .refl _⟩
            rcases Nat.lt_succ_iff_lt_or_eq.1 h with h | rfl
            · exact hj2 j h
            · omega
        · simp only [go_sem, hdl] at c4
          refine ex ?_
          refine sq ?_
          refine rg [2] [] [] (by kernel_rfl) ?_; intro κ ξ hκ hξ
          try simp +decide only [go_sem, Nat.reduceMul, Nat.reduceAdd, Nat.reduceBEq, cond_false, Option.toArray_none, Option.toArray_some, Array.toList_append, List.all_append, List.all_cons, List.all_nil, Bool.and_true, c0, c1, hd, hdl, c4]
          repeat with_reducible refine And.intro (by first | assumption | omega | (simp; done) | (simp; omega) | (intro hg; simp +decide only [go_sem, hg]; done) | (intro hg; simp +decide only [go_sem, hg]; omega)) ?_
          refine hκ _ _ ?_; clear hκ hξ ξ κ
          refine rt ?_
          refine retE ?_
          simp +decide only [go_sem, resD, resV, Option.toArray_none, Option.toArray_some, Array.toList_append, List.all_append, List.all_cons, List.all_nil, Bool.and_true, c0, c1, hd, hdl, c4]
          have h2 := tre_dep (by omega) (fun j hjl => hj j (by omega))
          rw [hd] at h2
          have h3 : treB l = true := by
            rw [h2]
            simp only [Bool.true_and, decide_eq_true_eq]
            exact fun j h => hj2 j (by omega)
          simp [h3]

end Go.Proofs.YtjjkgeeafjagkaaGreat

/- The walk of package font's Valid. Printed by a tool of our own. -/
import Derived.Test.YtjjkgeeafjagkaaGreatWc
namespace Go.Proofs.YtjjkgeeafjagkaaGreat
open Go Go.RowKit
set_option linter.unusedSimpArgs false
set_option linter.unusedVariables false
set_option maxHeartbeats 4000000
set_option maxRecDepth 100000
theorem gat_range {gs : List Gl} (h : okRows (gs.map grow)) {i : Nat} (hi : i < gs.length) : (0 ≤ (gat gs i).1 ∧ (gat gs i).1 ≤ 255) ∧ -9223372036854775808 ≤ (gat gs i).2 ∧ (gat gs i).2 ≤ 9223372036854775807 := by
  have := (okRows_map grow gs).1 h (gat gs i) (by simp [gat, hi])
  simp only [grow, okAll, D.ok, inR_u8', inR_i64', and_true] at this
  exact this
theorem kat_range {ks : List Kn} (h : okRows (ks.map krow)) {i : Nat} (hi : i < ks.length) : (0 ≤ (kat ks i).1 ∧ (kat ks i).1 ≤ 255) ∧ (0 ≤ (kat ks i).2.1 ∧ (kat ks i).2.1 ≤ 255) ∧ -9223372036854775808 ≤ (kat ks i).2.2 ∧ (kat ks i).2.2 ≤ 9223372036854775807 := by
  have := (okRows_map krow ks).1 h (kat ks i) (by simp [kat, hi])
  simp only [krow, okAll, D.ok, inR_u8', inR_i64', and_true] at this
  exact this
theorem gget_range {gs : List Gl} (hG : ∀ i, i < gs.length → gok gs i) (b : Int) : 0 ≤ (gget gs b).2 ∧ (gget gs b).2 ≤ 1000 := by
  unfold gget
  rcases gidx_cases gs b with ⟨i, hi, e, hg⟩ | ⟨hn, hg⟩
  · rw [hg, if_pos (by omega), Int.toNat_natCast]
    have := hG i hi
    unfold gok at this
    omega
  · rw [hg, if_neg (by omega)]; decide
theorem kby_iff {a b : Int} (ha : 0 ≤ a ∧ a ≤ 1000) : (b < -1000 ∨ 1000 < b ∨ IntKind.wrap .i64 (a + b) < 0) ↔ ¬ (b ≤ 1000 ∧ -a ≤ b) := by
  by_cases h1 : b < -1000
  · exact ⟨fun _ => by omega, fun _ => .inl h1⟩
  · by_cases h2 : 1000 < b
    · exact ⟨fun _ => by omega, fun _ => .inr (.inl h2)⟩
    · rw [w64 (by omega)]; omega
attribute [local go_sem] List.length_map rowAt_n nrow rowAt_t trow rowAt_i irow
attribute [local go_sem] rowAt_g rowAt_k grow krow prow
theorem few_w (gs : List Gl) (ks : List Kn) (tg tk : Tok) : PCall Tryz.prog (.func 28) [.ag [.sl 2 (gs.map grow) tg, .sl 3 (ks.map krow) tk]] (.bool (decide (gs.length ≤ 100 ∧ ks.length ≤ 210))) := by
  refine PCall.le ?_
  refine fn_ Tryz.func28 (by rfl) (by rfl) (rs := [.tmp 2]) (by rfl) (by simp [Tryz.f28]) ?_
  refine sq ?_
  refine rg [1] [1] [] (by kernel_rfl) ?_; intro κ ξ hκ hξ
  try simp +decide only [go_sem, Nat.reduceMul, Nat.reduceAdd, Nat.reduceBEq, cond_false]
  repeat with_reducible refine And.intro (by first | assumption | omega | (simp; done) | (simp; omega) | (intro hg; simp +decide only [go_sem, hg]; done) | (intro hg; simp +decide only [go_sem, hg]; omega)) ?_
  refine hκ _ _ ?_; clear hκ hξ ξ κ
  refine sq ?_
  refine rg [2] [] [(4, 7)] (by kernel_rfl) ?_; intro κ ξ hκ hξ
  try simp +decide only [go_sem, Nat.reduceMul, Nat.reduceAdd, Nat.reduceBEq, cond_false]
  repeat with_reducible refine And.intro (by first | assumption | omega | (simp; done) | (simp; omega) | (intro hg; simp +decide only [go_sem, hg]; done) | (intro hg; simp +decide only [go_sem, hg]; omega)) ?_
  refine hκ _ _ ?_; clear hκ hξ ξ κ
  refine rt ?_
  refine retE ?_
  simp +decide only [go_sem, resD, resV]
  all_goals congr 1
  all_goals rw [Bool.eq_iff_iff]
  all_goals simp
  all_goals omega

theorem fok_w (gs : List Gl) (ks : List Kn) (tg tk : Tok) : PCall Tryz.prog (.func 46) [.ag [.sl 2 (gs.map grow) tg, .sl 3 (ks.map krow) tk]] (.bool (fok gs ks)) := by
  refine PCall.ok fun hok => ?_
  simp only [okAll, D.ok, okRows, and_true, true_and, lim_eq, inR_i64', inR_i32', inR_u8', inR_u16', inR_u64'] at hok
  obtain ⟨⟨hg, hgr⟩, hk, hkr⟩ := hok; rw [List.length_map] at hg hk
  refine PCall.le ?_
  refine fn_ Tryz.func46 (by rfl) (by rfl) (rs := [.tmp 2]) (by rfl) (by simp [Tryz.f46]) ?_
  refine sq ?_
  refine rg [1] [1] [] (by kernel_rfl) ?_; intro κ ξ hκ hξ
  try simp +decide only [go_sem, Nat.reduceMul, Nat.reduceAdd, Nat.reduceBEq, cond_false]
  repeat with_reducible refine And.intro (by first | assumption | omega | (simp; done) | (simp; omega) | (intro hg; simp +decide only [go_sem, hg]; done) | (intro hg; simp +decide only [go_sem, hg]; omega)) ?_
  refine hκ _ _ ?_; clear hκ hξ ξ κ
  refine sq ?_
  refine sq ?_
  refine rg [1, 20] [] [(4, 15)] (by kernel_rfl) ?_; intro κ ξ hκ hξ
  try simp +decide only [go_sem, Nat.reduceMul, Nat.reduceAdd, Nat.reduceBEq, cond_false]
  repeat with_reducible refine And.intro (by first | assumption | omega | (simp; done) | (simp; omega) | (intro hg; simp +decide only [go_sem, hg]; done) | (intro hg; simp +decide only [go_sem, hg]; omega)) ?_
  refine hκ _ _ ?_; clear hκ hξ ξ κ
  refine cd (by rfl) (fun c0 => ?_) (fun c0 => ?_)
  · try simp only [go_sem] at c0
    refine sq ?_
    refine rg [2] [] [] (by kernel_rfl) ?_; intro κ ξ hκ hξ
    try simp +decide only [go_sem, Nat.reduceMul, Nat.reduceAdd, Nat.reduceBEq, cond_false, c0]
    repeat with_reducible refine And.intro (by first | assumption | omega | (simp; done) | (simp; omega) | (intro hg; simp +decide only [go_sem, hg]; done) | (intro hg; simp +decide only [go_sem, hg]; omega)) ?_
    refine hκ _ _ ?_; clear hκ hξ ξ κ
    refine rt ?_
    refine retE ?_
    simp +decide only [go_sem, resD, resV, c0]
    all_goals rw [fok_false.2 ?_]
    rintro ⟨_, _⟩
    omega
  · try simp only [go_sem] at c0
    refine sk ?_
    refine sq ?_
    refine sq ?_
    refine rg [1, 22, 23, 24] [] [] (by kernel_rfl) ?_; intro κ ξ hκ hξ
    try simp +decide only [go_sem, Nat.reduceMul, Nat.reduceAdd, Nat.reduceBEq, cond_false, c0]
    repeat with_reducible refine And.intro (by first | assumption | omega | (simp; done) | (simp; omega) | (intro hg; simp +decide only [go_sem, hg]; done) | (intro hg; simp +decide only [go_sem, hg]; omega)) ?_
    refine hκ _ _ ?_; clear hκ hξ ξ κ
    refine bl ?_
    refine lp (α := Nat) (fun i => mk [(1, .el [.sl 2 (gs.map grow) tg, .sl 3 (ks.map krow) tk]), (22, .sl 2 (gs.map grow) tg), (23, .int .i64 gs.length), (24, .int .i64 i)]) (fun _ => []) (fun i => i ≤ gs.length ∧ ∀ j, j < i → gok gs j) (fun i => gs.length - i) 0 ⟨⟨by omega, by intro j hj; omega⟩, EnvLe.of_eq rfl, .refl _⟩ ?_
    rintro i ⟨hi, hj⟩
    refine sq ?_
    refine rg [1, 22, 23, 24, 25] [] [] (by kernel_rfl) ?_; intro κ ξ hκ hξ
    try simp +decide only [go_sem, Nat.reduceMul, Nat.reduceAdd, Nat.reduceBEq, cond_false, c0]
    repeat with_reducible refine And.intro (by first | assumption | omega | (simp; done) | (simp; omega) | (intro hg; simp +decide only [go_sem, hg]; done) | (intro hg; simp +decide only [go_sem, hg]; omega)) ?_
    refine hκ _ _ ?_; clear hκ hξ ξ κ
    refine sq ?_
    refine cd (by rfl) (fun c1 => ?_) (fun c1 => ?_)
    · try simp only [go_sem] at c1
      refine sk ?_
      refine sq ?_
      refine bl ?_
      refine sq ?_
      refine rgz [(4, [])] [1, 3, 4, 22, 23, 24] [] [] (by kernel_rfl) ?_; intro κ ξ hκ hξ
      try simp +decide only [go_sem, Nat.reduceMul, Nat.reduceAdd, Nat.reduceBEq, cond_false, c0, c1]
      repeat with_reducible refine And.intro (by first | assumption | omega | (simp; done) | (simp; omega) | (intro hg; simp +decide only [go_sem, hg]; done) | (intro hg; simp +decide only [go_sem, hg]; omega)) ?_
      intro b4 hb4
      try simp +decide only [go_sem, Nat.reduceMul, Nat.reduceAdd, Nat.reduceBEq, cond_false, c0, c1, hb4]
      repeat with_reducible refine And.intro (by first | assumption | omega | (simp; done) | (simp; omega) | (intro hg; simp +decide only [go_sem, hg]; done) | (intro hg; simp +decide only [go_sem, hg]; omega)) ?_
      refine hκ _ _ ?_; clear hκ hξ ξ κ
      refine sq ?_
      rcases i with _ | k
      · have hi0 : ((0 : Nat) : Int) = 0 := rfl
        refine rgd [1, 22, 23, 24, 62] [] [] [(3, 32), (8, 37), (13, 42), (18, 47), (21, 50)] (by kernel_rfl) (by kernel_rfl) ?_; intro κ ξ hκ hξ
        try simp +decide only [go_sem, Nat.reduceMul, Nat.reduceAdd, Nat.reduceBEq, cond_false, c0, c1, hb4, hi0]
        repeat with_reducible refine And.intro (by first | assumption | omega | (simp; done) | (simp; omega) | (intro hg; simp +decide only [go_sem, hg]; done) | (intro hg; simp +decide only [go_sem, hg]; omega)) ?_
        refine hκ _ _ ?_; clear hκ hξ ξ κ
        refine cd (by rfl) (fun c2 => ?_) (fun c2 => ?_)
        · try simp only [go_sem] at c2
          refine sq ?_
          refine rg [2] [] [] (by kernel_rfl) ?_; intro κ ξ hκ hξ
          try simp +decide only [go_sem, Nat.reduceMul, Nat.reduceAdd, Nat.reduceBEq, cond_false, c0, c1, hb4, hi0, c2]
          repeat with_reducible refine And.intro (by first | assumption | omega | (simp; done) | (simp; omega) | (intro hg; simp +decide only [go_sem, hg]; done) | (intro hg; simp +decide only [go_sem, hg]; omega)) ?_
          refine hκ _ _ ?_; clear hκ hξ ξ κ
          refine rt ?_
          refine retE ?_
          simp +decide only [go_sem, resD, resV, c0, c1, hb4, hi0, c2]
          all_goals rw [fok_false.2 ?_]
          rintro ⟨_, hh, _⟩
          have := hh 0 (by omega)
          simp only [gok, Nat.add_sub_cancel] at this
          omega
        · try simp only [go_sem] at c2
          refine sk ?_
          refine rg [1, 22, 23, 24] [] [] (by kernel_rfl) ?_; intro κ ξ hκ hξ
          try simp +decide only [go_sem, Nat.reduceMul, Nat.reduceAdd, Nat.reduceBEq, cond_false, c0, c1, hb4, hi0, c2]
          repeat with_reducible refine And.intro (by first | assumption | omega | (simp; done) | (simp; omega) | (intro hg; simp +decide only [go_sem, hg]; done) | (intro hg; simp +decide only [go_sem, hg]; omega)) ?_
          refine hκ _ _ ?_; clear hκ hξ ξ κ
          refine ⟨0 + 1, ⟨⟨by omega, ?_⟩, by omega⟩, EnvLe.of_eq (by rw [w64 (by omega)]; rfl), List.nil_sublist _⟩
          intro j h
          rcases Nat.lt_succ_iff_lt_or_eq.1 h with h | rfl
          · exact hj j h
          · simp only [gok, Nat.add_sub_cancel]
            exact ⟨by omega, by omega, by omega, by omega, fun h0 => by omega⟩
      · have hk1 : ((k + 1 : Nat) : Int) = (k : Int) + 1 := rfl
        have hk0 : (0 : Int) < (k : Int) + 1 := by omega
        have hkw : IntKind.wrap .i64 ((k : Int) + 1 - 1) = k := by rw [w64 (by omega)]; omega
        have hkl : (k : Int) < gs.length := by omega
        have hkl2 : (k : Int) + 1 < gs.length := by omega
        refine rgd [1, 22, 23, 24, 62] [] [] [(3, 32), (8, 37), (13, 42), (18, 47), (21, 50)] (by kernel_rfl) (by kernel_rfl) ?_; intro κ ξ hκ hξ
        try simp +decide only [go_sem, Nat.reduceMul, Nat.reduceAdd, Nat.reduceBEq, cond_false, c0, c1, hb4, hk1, hk0, hkw, hkl, hkl2]
        repeat with_reducible refine And.intro (by first | assumption | omega | (simp; done) | (simp; omega) | (intro hg; simp +decide only [go_sem, hg]; done) | (intro hg; simp +decide only [go_sem, hg]; omega)) ?_
        refine hκ _ _ ?_; clear hκ hξ ξ κ
        refine cd (by rfl) (fun c3 => ?_) (fun c3 => ?_)
        · try simp only [go_sem] at c3
          refine sq ?_
          refine rg [2] [] [] (by kernel_rfl) ?_; intro κ ξ hκ hξ
          try simp +decide only [go_sem, Nat.reduceMul, Nat.reduceAdd, Nat.reduceBEq, cond_false, c0, c1, hb4, hk1, hk0, hkw, hkl, hkl2, c3]
          repeat with_reducible refine And.intro (by first | assumption | omega | (simp; done) | (simp; omega) | (intro hg; simp +decide only [go_sem, hg]; done) | (intro hg; simp +decide only [go_sem, hg]; omega)) ?_
          refine hκ _ _ ?_; clear hκ hξ ξ κ
          refine rt ?_
          refine retE ?_
          simp +decide only [go_sem, resD, resV, c0, c1, hb4, hk1, hk0, hkw, hkl, hkl2, c3]
          all_goals rw [fok_false.2 ?_]
          rintro ⟨_, hh, _⟩
          have := hh (k + 1) (by omega)
          simp only [gok, Nat.add_sub_cancel] at this
          omega
        · try simp only [go_sem] at c3
          refine sk ?_
          refine rg [1, 22, 23, 24] [] [] (by kernel_rfl) ?_; intro κ ξ hκ hξ
          try simp +decide only [go_sem, Nat.reduceMul, Nat.reduceAdd, Nat.reduceBEq, cond_false, c0, c1, hb4, hk1, hk0, hkw, hkl, hkl2, c3]
          repeat with_reducible refine And.intro (by first | assumption | omega | (simp; done) | (simp; omega) | (intro hg; simp +decide only [go_sem, hg]; done) | (intro hg; simp +decide only [go_sem, hg]; omega)) ?_
          refine hκ _ _ ?_; clear hκ hξ ξ κ
          refine ⟨(k + 1) + 1, ⟨⟨by omega, ?_⟩, by omega⟩, EnvLe.of_eq (by rw [w64 (by omega)]; rfl), List.nil_sublist _⟩
          intro j h
          rcases Nat.lt_succ_iff_lt_or_eq.1 h with h | rfl
          · exact hj j h
          · simp only [gok, Nat.add_sub_cancel]
            exact ⟨by omega, by omega, by omega, by omega, fun h0 => by omega⟩
    · try simp only [go_sem] at c1
      refine ex ?_
      refine sq ?_
      refine sq ?_
      refine rg [1, 65, 66, 67] [] [] (by kernel_rfl) ?_; intro κ ξ hκ hξ
      try simp +decide only [go_sem, Nat.reduceMul, Nat.reduceAdd, Nat.reduceBEq, cond_false, c0, c1]
      repeat with_reducible refine And.intro (by first | assumption | omega | (simp; done) | (simp; omega) | (intro hg; simp +decide only [go_sem, hg]; done) | (intro hg; simp +decide only [go_sem, hg]; omega)) ?_
      refine hκ _ _ ?_; clear hκ hξ ξ κ
      refine bl ?_
      have hG : ∀ i, i < gs.length → gok gs i := fun j h => hj j (by omega)
      have hs := fok_sorted hG
      have hn : gs.length ≤ 1000 := by omega
      refine lp (α := Nat) (fun i => mk [(1, .el [.sl 2 (gs.map grow) tg, .sl 3 (ks.map krow) tk]), (65, .sl 3 (ks.map krow) tk), (66, .int .i64 ks.length), (67, .int .i64 i)]) (fun _ => []) (fun i => i ≤ ks.length ∧ ∀ j, j < i → kok gs ks j) (fun i => ks.length - i) 0 ⟨⟨by omega, by intro j hj; omega⟩, EnvLe.of_eq rfl, .refl _⟩ ?_
      rintro i ⟨hi, hj⟩
      have hgr2 := gget_range hG (kat ks i).1
      have hneg : IntKind.wrap .i64 (0 - (gget gs (kat ks i).1).2) = -(gget gs (kat ks i).1).2 := by rw [w64 (by omega)]; omega
      refine sq ?_
      refine rg [1, 65, 66, 67, 68] [] [] (by kernel_rfl) ?_; intro κ ξ hκ hξ
      try simp +decide only [go_sem, Nat.reduceMul, Nat.reduceAdd, Nat.reduceBEq, cond_false, c0, c1, hneg]
      repeat with_reducible refine And.intro (by first | assumption | omega | (simp; done) | (simp; omega) | (intro hg; simp +decide only [go_sem, hg]; done) | (intro hg; simp +decide only [go_sem, hg]; omega)) ?_
      refine hκ _ _ ?_; clear hκ hξ ξ κ
      refine sq ?_
      refine cd (by rfl) (fun c4 => ?_) (fun c4 => ?_)
      · try simp only [go_sem] at c4
        refine sk ?_
        refine sq ?_
        refine bl ?_
        refine sq ?_
        refine rgz [(6, [])] [1, 5, 6, 65, 66, 67] [] [] (by kernel_rfl) ?_; intro κ ξ hκ hξ
        try simp +decide only [go_sem, Nat.reduceMul, Nat.reduceAdd, Nat.reduceBEq, cond_false, c0, c1, hneg, c4]
        repeat with_reducible refine And.intro (by first | assumption | omega | (simp; done) | (simp; omega) | (intro hg; simp +decide only [go_sem, hg]; done) | (intro hg; simp +decide only [go_sem, hg]; omega)) ?_
        intro b6 hb6
        try simp +decide only [go_sem, Nat.reduceMul, Nat.reduceAdd, Nat.reduceBEq, cond_false, c0, c1, hneg, c4, hb6]
        repeat with_reducible refine And.intro (by first | assumption | omega | (simp; done) | (simp; omega) | (intro hg; simp +decide only [go_sem, hg]; done) | (intro hg; simp +decide only [go_sem, hg]; omega)) ?_
        refine hκ _ _ ?_; clear hκ hξ ξ κ
        refine sq ?_
        refine rgz [(7, [])] [1, 5, 6, 7, 8, 65, 66, 67] [] [] (by kernel_rfl) ?_; intro κ ξ hκ hξ
        try simp +decide only [go_sem, Nat.reduceMul, Nat.reduceAdd, Nat.reduceBEq, cond_false, c0, c1, hneg, c4, hb6]
        repeat with_reducible refine And.intro (by first | assumption | omega | (simp; done) | (simp; omega) | (intro hg; simp +decide only [go_sem, hg]; done) | (intro hg; simp +decide only [go_sem, hg]; omega)) ?_
        refine callF (glyph_s hn hs) ?_
        try simp +decide only [go_sem, Nat.reduceMul, Nat.reduceAdd, Nat.reduceBEq, cond_false, c0, c1, hneg, c4, hb6]
        repeat with_reducible refine And.intro (by first | assumption | omega | (simp; done) | (simp; omega) | (intro hg; simp +decide only [go_sem, hg]; done) | (intro hg; simp +decide only [go_sem, hg]; omega)) ?_
        intro b7 hb7
        try simp +decide only [go_sem, Nat.reduceMul, Nat.reduceAdd, Nat.reduceBEq, cond_false, c0, c1, hneg, c4, hb6, hb7]
        repeat with_reducible refine And.intro (by first | assumption | omega | (simp; done) | (simp; omega) | (intro hg; simp +decide only [go_sem, hg]; done) | (intro hg; simp +decide only [go_sem, hg]; omega)) ?_
        refine hκ _ _ ?_; clear hκ hξ ξ κ
        refine sq ?_
        refine rg [1, 5, 6, 7, 8, 10, 65, 66, 67] [] [] (by kernel_rfl) ?_; intro κ ξ hκ hξ
        try simp +decide only [go_sem, Nat.reduceMul, Nat.reduceAdd, Nat.reduceBEq, cond_false, c0, c1, hneg, c4, hb6, hb7]
        repeat with_reducible refine And.intro (by first | assumption | omega | (simp; done) | (simp; omega) | (intro hg; simp +decide only [go_sem, hg]; done) | (intro hg; simp +decide only [go_sem, hg]; omega)) ?_
        refine callF (glyph_s hn hs) ?_
        try simp +decide only [go_sem, Nat.reduceMul, Nat.reduceAdd, Nat.reduceBEq, cond_false, c0, c1, hneg, c4, hb6, hb7]
        repeat with_reducible refine And.intro (by first | assumption | omega | (simp; done) | (simp; omega) | (intro hg; simp +decide only [go_sem, hg]; done) | (intro hg; simp +decide only [go_sem, hg]; omega)) ?_
        intro b9 hb9
        try simp +decide only [go_sem, Nat.reduceMul, Nat.reduceAdd, Nat.reduceBEq, cond_false, c0, c1, hneg, c4, hb6, hb7, hb9]
        repeat with_reducible refine And.intro (by first | assumption | omega | (simp; done) | (simp; omega) | (intro hg; simp +decide only [go_sem, hg]; done) | (intro hg; simp +decide only [go_sem, hg]; omega)) ?_
        refine hκ _ _ ?_; clear hκ hξ ξ κ
        refine sq ?_
        refine sq ?_
        refine rg [1, 5, 6, 65, 66, 67, 104] [] [(2, 88), (6, 92), (11, 97)] (by kernel_rfl) ?_; intro κ ξ hκ hξ
        try simp +decide only [go_sem, Nat.reduceMul, Nat.reduceAdd, Nat.reduceBEq, cond_false, c0, c1, hneg, c4, hb6, hb7, hb9]
        repeat with_reducible refine And.intro (by first | assumption | omega | (simp; done) | (simp; omega) | (intro hg; simp +decide only [go_sem, hg]; done) | (intro hg; simp +decide only [go_sem, hg]; omega)) ?_
        refine hκ _ _ ?_; clear hκ hξ ξ κ
        refine cd (by rfl) (fun c5 => ?_) (fun c5 => ?_)
        · try simp only [go_sem] at c5
          refine sq ?_
          refine rg [2] [] [] (by kernel_rfl) ?_; intro κ ξ hκ hξ
          try simp +decide only [go_sem, Nat.reduceMul, Nat.reduceAdd, Nat.reduceBEq, cond_false, c0, c1, hneg, c4, hb6, hb7, hb9, c5]
          repeat with_reducible refine And.intro (by first | assumption | omega | (simp; done) | (simp; omega) | (intro hg; simp +decide only [go_sem, hg]; done) | (intro hg; simp +decide only [go_sem, hg]; omega)) ?_
          refine hκ _ _ ?_; clear hκ hξ ξ κ
          refine rt ?_
          refine retE ?_
          simp +decide only [go_sem, resD, resV, c0, c1, hneg, c4, hb6, hb7, hb9, c5]
          all_goals rw [fok_false.2 ?_]
          rintro ⟨_, _, hh⟩
          have hq := hh i (by omega)
          simp only [kok, Nat.add_sub_cancel] at hq
          obtain ⟨q1, q2, q3, q4, q5⟩ := hq
          omega
        · try simp only [go_sem] at c5
          refine sk ?_
          refine sq ?_
          rcases i with _ | k
          · have hi0 : ((0 : Nat) : Int) = 0 := rfl
            refine rgd [1, 65, 66, 67, 121] [] [119] [(2, 107)] (by kernel_rfl) (by kernel_rfl) ?_; intro κ ξ hκ hξ
            try simp +decide only [go_sem, Nat.reduceMul, Nat.reduceAdd, Nat.reduceBEq, cond_false, c0, c1, hneg, c4, hb6, hb7, hb9, c5, hi0]
            repeat with_reducible refine And.intro (by first | assumption | omega | (simp; done) | (simp; omega) | (intro hg; simp +decide only [go_sem, hg]; done) | (intro hg; simp +decide only [go_sem, hg]; omega)) ?_
            refine vd_gc (by rfl) ?_; simp +decide only [go_sem, c0, c1, hneg, c4, hb6, hb7, hb9, c5, hi0]; first | refine gcallN ?_ | refine gcallF (fun hg => ⟨by first | rfl | (simp +decide only [go_sem, hg, c0, c1, hneg, c4, hb6, hb7, hb9, c5, hi0]; done), kcmp_w _ (kp (kat ks (k + 1)))⟩) ?_
            try simp +decide only [go_sem, Nat.reduceMul, Nat.reduceAdd, Nat.reduceBEq, cond_false, c0, c1, hneg, c4, hb6, hb7, hb9, c5, hi0]
            repeat with_reducible refine And.intro (by first | assumption | omega | (simp; done) | (simp; omega) | (intro hg; simp +decide only [go_sem, hg]; done) | (intro hg; simp +decide only [go_sem, hg]; omega)) ?_
            refine hκ _ _ ?_; clear hκ hξ ξ κ
            refine cdf (by rfl) ?_
            refine sk ?_
            refine rg [1, 65, 66, 67] [] [] (by kernel_rfl) ?_; intro κ ξ hκ hξ
            try simp +decide only [go_sem, Nat.reduceMul, Nat.reduceAdd, Nat.reduceBEq, cond_false, c0, c1, hneg, c4, hb6, hb7, hb9, c5, hi0]
            repeat with_reducible refine And.intro (by first | assumption | omega | (simp; done) | (simp; omega) | (intro hg; simp +decide only [go_sem, hg]; done) | (intro hg; simp +decide only [go_sem, hg]; omega)) ?_
            refine hκ _ _ ?_; clear hκ hξ ξ κ
            refine ⟨0 + 1, ⟨⟨by omega, ?_⟩, by omega⟩, EnvLe.of_eq (by rw [w64 (by omega)]; rfl), List.nil_sublist _⟩
            intro j h
            rcases Nat.lt_succ_iff_lt_or_eq.1 h with h | rfl
            · exact hj j h
            · simp only [kok, Nat.add_sub_cancel]
              exact ⟨by omega, by omega, by omega, by omega, fun h0 => by omega⟩
          · have hk1 : ((k + 1 : Nat) : Int) = (k : Int) + 1 := rfl
            have hk0 : (0 : Int) < (k : Int) + 1 := by omega
            have hkw : IntKind.wrap .i64 ((k : Int) + 1 - 1) = k := by rw [w64 (by omega)]; omega
            have hkl : (k : Int) < ks.length := by omega
            have hkl2 : (k : Int) + 1 < ks.length := by omega
            refine rgd [1, 65, 66, 67, 121] [] [119] [(2, 107)] (by kernel_rfl) (by kernel_rfl) ?_; intro κ ξ hκ hξ
            try simp +decide only [go_sem, Nat.reduceMul, Nat.reduceAdd, Nat.reduceBEq, cond_false, c0, c1, hneg, c4, hb6, hb7, hb9, c5, hk1, hk0, hkw, hkl, hkl2]
            repeat with_reducible refine And.intro (by first | assumption | omega | (simp; done) | (simp; omega) | (intro hg; simp +decide only [go_sem, hg]; done) | (intro hg; simp +decide only [go_sem, hg]; omega)) ?_
            refine vd_gc (by rfl) ?_; simp +decide only [go_sem, c0, c1, hneg, c4, hb6, hb7, hb9, c5, hk1, hk0, hkw, hkl, hkl2]; first | refine gcallN ?_ | refine gcallF (fun hg => ⟨by first | rfl | (simp +decide only [go_sem, hg, c0, c1, hneg, c4, hb6, hb7, hb9, c5, hk1, hk0, hkw, hkl, hkl2]; done), kcmp_w _ (kp (kat ks (k + 1)))⟩) ?_
            try simp +decide only [go_sem, Nat.reduceMul, Nat.reduceAdd, Nat.reduceBEq, cond_false, c0, c1, hneg, c4, hb6, hb7, hb9, c5, hk1, hk0, hkw, hkl, hkl2]
            repeat with_reducible refine And.intro (by first | assumption | omega | (simp; done) | (simp; omega) | (intro hg; simp +decide only [go_sem, hg]; done) | (intro hg; simp +decide only [go_sem, hg]; omega)) ?_
            refine hκ _ _ ?_; clear hκ hξ ξ κ
            refine cd (by rfl) (fun c6 => ?_) (fun c6 => ?_)
            · try simp only [go_sem] at c6
              refine sq ?_
              refine rg [2] [] [] (by kernel_rfl) ?_; intro κ ξ hκ hξ
              try simp +decide only [go_sem, Nat.reduceMul, Nat.reduceAdd, Nat.reduceBEq, cond_false, c0, c1, hneg, c4, hb6, hb7, hb9, c5, hk1, hk0, hkw, hkl, hkl2, c6]
              repeat with_reducible refine And.intro (by first | assumption | omega | (simp; done) | (simp; omega) | (intro hg; simp +decide only [go_sem, hg]; done) | (intro hg; simp +decide only [go_sem, hg]; omega)) ?_
              refine hκ _ _ ?_; clear hκ hξ ξ κ
              refine rt ?_
              refine retE ?_
              simp +decide only [go_sem, resD, resV, c0, c1, hneg, c4, hb6, hb7, hb9, c5, hk1, hk0, hkw, hkl, hkl2, c6]
              all_goals rw [fok_false.2 ?_]
              rintro ⟨_, _, hh⟩
              have hq := hh (k + 1) (by omega)
              simp only [kok, Nat.add_sub_cancel] at hq
              obtain ⟨q1, q2, q3, q4, q5⟩ := hq
              have q6 := kcmp_lt.2 (q5 (by omega))
              omega
            · try simp only [go_sem] at c6
              refine sk ?_
              refine rg [1, 65, 66, 67] [] [] (by kernel_rfl) ?_; intro κ ξ hκ hξ
              try simp +decide only [go_sem, Nat.reduceMul, Nat.reduceAdd, Nat.reduceBEq, cond_false, c0, c1, hneg, c4, hb6, hb7, hb9, c5, hk1, hk0, hkw, hkl, hkl2, c6]
              repeat with_reducible refine And.intro (by first | assumption | omega | (simp; done) | (simp; omega) | (intro hg; simp +decide only [go_sem, hg]; done) | (intro hg; simp +decide only [go_sem, hg]; omega)) ?_
              refine hκ _ _ ?_; clear hκ hξ ξ κ
              refine ⟨(k + 1) + 1, ⟨⟨by omega, ?_⟩, by omega⟩, EnvLe.of_eq (by rw [w64 (by omega)]; rfl), List.nil_sublist _⟩
              intro j h
              rcases Nat.lt_succ_iff_lt_or_eq.1 h with h | rfl
              · exact hj j h
              · simp only [kok, Nat.add_sub_cancel]
                exact ⟨by omega, by omega, by omega, by omega, fun h0 => kcmp_lt.1 (by omega)⟩
      · try simp only [go_sem] at c4
        refine ex ?_
        refine sq ?_
        refine rg [2] [] [] (by kernel_rfl) ?_; intro κ ξ hκ hξ
        try simp +decide only [go_sem, Nat.reduceMul, Nat.reduceAdd, Nat.reduceBEq, cond_false, c0, c1, hneg, c4]
        repeat with_reducible refine And.intro (by first | assumption | omega | (simp; done) | (simp; omega) | (intro hg; simp +decide only [go_sem, hg]; done) | (intro hg; simp +decide only [go_sem, hg]; omega)) ?_
        refine hκ _ _ ?_; clear hκ hξ ξ κ
        refine rt ?_
        refine retE ?_
        simp +decide only [go_sem, resD, resV, c0, c1, hneg, c4]
        all_goals rw [fok_true.2 ⟨by omega, hG, fun j h => hj j (by omega)⟩]

end Go.Proofs.YtjjkgeeafjagkaaGreat

/- The walk of versions' Valid. Printed by a tool of our own. -/
import Derived.Test.YtjjkgeeafjagkaaGreatWc
import Derived.Test.YtjjkgeeafjagkaaGreatWf
namespace Go.Proofs.YtjjkgeeafjagkaaGreat
open Go Go.RowKit
set_option linter.unusedSimpArgs false
set_option linter.unusedVariables false
set_option maxHeartbeats 4000000
set_option maxRecDepth 100000
attribute [local go_sem] List.length_map rowAt_n nrow rowAt_t trow rowAt_i irow
attribute [local go_sem] rowAt_e rowAt_tm rowAt_dc rowAt_ru tmrow dcrow rurow
attribute [local go_sem] rowAt_br rowAt_s rowAt_fo rowAt_ve rowAt_g rowAt_k grow krow srow brrow forow dorow verow
theorem ver_w (l : List Ve) (t : Tok) : PCall Tryz.prog (.func 13) [.sl 6 (l.map verow) t] (.bool (verB l)) := by
  refine PCall.ok fun hok => ?_
  simp only [okAll, D.ok, okRows, and_true, true_and, lim_eq, inR_i64', inR_i32', inR_u8', inR_u16', inR_u64'] at hok
  obtain ⟨hl, hr⟩ := hok; rw [List.length_map] at hl
  refine PCall.le ?_
  refine fn_ Tryz.func13 (by rfl) (by rfl) (rs := [.tmp 2]) (by rfl) (by simp [Tryz.f13]) ?_
  refine sq ?_
  refine rg [0] [] [] (by kernel_rfl) ?_; intro κ ξ hκ hξ
  try simp +decide only [go_sem, Nat.reduceMul, Nat.reduceAdd, Nat.reduceBEq, cond_false]
  repeat with_reducible refine And.intro (by first | assumption | omega | (simp; done) | (simp; omega) | (intro hg; simp +decide only [go_sem, hg]; done) | (intro hg; simp +decide only [go_sem, hg]; omega)) ?_
  refine hκ _ _ ?_; clear hκ hξ ξ κ
  refine sq ?_
  refine sq ?_
  refine rg [0, 6, 7, 8] [] [] (by kernel_rfl) ?_; intro κ ξ hκ hξ
  try simp +decide only [go_sem, Nat.reduceMul, Nat.reduceAdd, Nat.reduceBEq, cond_false]
  repeat with_reducible refine And.intro (by first | assumption | omega | (simp; done) | (simp; omega) | (intro hg; simp +decide only [go_sem, hg]; done) | (intro hg; simp +decide only [go_sem, hg]; omega)) ?_
  refine hκ _ _ ?_; clear hκ hξ ξ κ
  refine bl ?_
  have hlw : IntKind.wrap .i64 ((l.length : Int) - 1) = (l.length : Int) - 1 := w64 (by omega)
  refine lp (α := Nat) (fun i => mk [(0, .sl 6 (l.map verow) t), (6, .sl 6 (l.map verow) t), (7, .int .i64 l.length), (8, .int .i64 i)]) (fun i => []) (fun i => i ≤ l.length ∧ ∀ j, j < i → vok l j = true) (fun i => l.length - i) 0 ⟨⟨by omega, by intro j hj; omega⟩, EnvLe.of_eq rfl, .refl _⟩ ?_
  rintro i ⟨hi, hj⟩
  refine sq ?_
  refine rg [0, 6, 7, 8, 9] [] [] (by kernel_rfl) ?_; intro κ ξ hκ hξ
  try simp +decide only [go_sem, Nat.reduceMul, Nat.reduceAdd, Nat.reduceBEq, cond_false, hlw]
  repeat with_reducible refine And.intro (by first | assumption | omega | (simp; done) | (simp; omega) | (intro hg; simp +decide only [go_sem, hg]; done) | (intro hg; simp +decide only [go_sem, hg]; omega)) ?_
  refine hκ _ _ ?_; clear hκ hξ ξ κ
  refine sq ?_
  refine cd (by rfl) (fun c0 => ?_) (fun c0 => ?_)
  · try simp only [go_sem] at c0
    refine sk ?_
    refine sq ?_
    refine bl ?_
    refine sq ?_
    refine rgz [(4, [])] [0, 3, 4, 6, 7, 8] [] [] (by kernel_rfl) ?_; intro κ ξ hκ hξ
    try simp +decide only [go_sem, Nat.reduceMul, Nat.reduceAdd, Nat.reduceBEq, cond_false, hlw, c0]
    repeat with_reducible refine And.intro (by first | assumption | omega | (simp; done) | (simp; omega) | (intro hg; simp +decide only [go_sem, hg]; done) | (intro hg; simp +decide only [go_sem, hg]; omega)) ?_
    intro b4 hb4
    try simp +decide only [go_sem, Nat.reduceMul, Nat.reduceAdd, Nat.reduceBEq, cond_false, hlw, c0, hb4]
    repeat with_reducible refine And.intro (by first | assumption | omega | (simp; done) | (simp; omega) | (intro hg; simp +decide only [go_sem, hg]; done) | (intro hg; simp +decide only [go_sem, hg]; omega)) ?_
    refine hκ _ _ ?_; clear hκ hξ ξ κ
    refine sq ?_
    refine rg [0, 3, 4, 5, 6, 7, 8] [] [] (by kernel_rfl) ?_; intro κ ξ hκ hξ
    try simp +decide only [go_sem, Nat.reduceMul, Nat.reduceAdd, Nat.reduceBEq, cond_false, hlw, c0, hb4]
    repeat with_reducible refine And.intro (by first | assumption | omega | (simp; done) | (simp; omega) | (intro hg; simp +decide only [go_sem, hg]; done) | (intro hg; simp +decide only [go_sem, hg]; omega)) ?_
    refine hκ _ _ ?_; clear hκ hξ ξ κ
    refine sq ?_
    rcases i with _ | k
    · have hi0 : ((0 : Nat) : Int) = 0 := rfl
      have hw1 : IntKind.wrap .i64 ((0 : Int) + 1) = 1 := by rw [w64 (by omega)]; rfl
      refine rgd [0, 6, 7, 8, 65] [] [63] [(3, 21), (8, 26), (11, 29), (23, 41), (28, 46), (33, 51), (37, 55), (42, 60)] (by kernel_rfl) (by kernel_rfl) ?_; intro κ ξ hκ hξ
      try simp +decide only [go_sem, Nat.reduceMul, Nat.reduceAdd, Nat.reduceBEq, cond_false, hlw, c0, hb4, hi0, hw1]
      repeat with_reducible refine And.intro (by first | assumption | omega | (simp; done) | (simp; omega) | (intro hg; simp +decide only [go_sem, hg]; done) | (intro hg; simp +decide only [go_sem, hg]; omega)) ?_
      refine vd_gc (by rfl) ?_; simp +decide only [go_sem, hlw, c0, hb4, hi0, hw1]; refine gcallF (fun hg => ⟨by first | rfl | (simp +decide only [go_sem, hg, hlw, c0, hb4, hi0, hw1]; done) | exact hg | simpa using hg, cov_w _⟩) ?_
      try simp +decide only [go_sem, Nat.reduceMul, Nat.reduceAdd, Nat.reduceBEq, cond_false, hlw, c0, hb4, hi0, hw1]
      repeat with_reducible refine And.intro (by first | assumption | omega | (simp; done) | (simp; omega) | (intro hg; simp +decide only [go_sem, hg]; done) | (intro hg; simp +decide only [go_sem, hg]; omega)) ?_
      refine hκ _ _ ?_; clear hκ hξ ξ κ
      refine cd (by rfl) (fun c1 => ?_) (fun c1 => ?_)
      · try simp only [go_sem] at c1
        refine sq ?_
        refine rg [2] [] [] (by kernel_rfl) ?_; intro κ ξ hκ hξ
        try simp +decide only [go_sem, Nat.reduceMul, Nat.reduceAdd, Nat.reduceBEq, cond_false, hlw, c0, hb4, hi0, hw1, c1]
        repeat with_reducible refine And.intro (by first | assumption | omega | (simp; done) | (simp; omega) | (intro hg; simp +decide only [go_sem, hg]; done) | (intro hg; simp +decide only [go_sem, hg]; omega)) ?_
        refine hκ _ _ ?_; clear hκ hξ ξ κ
        refine rt ?_
        refine retE ?_
        simp +decide only [go_sem, resD, resV, hlw, c0, hb4, hi0, hw1, c1]
        congr 1
        symm
        refine ver_no (i := 0) (by omega) ?_
        rw [← Bool.not_eq_true, vok_true]
        try simp only [Nat.add_sub_cancel]
        rintro ⟨⟨a, b, c, d⟩, e⟩
        simp [e] at c1
        omega
      · try simp only [go_sem] at c1
        refine sk ?_
        refine rg [0, 6, 7, 8] [] [] (by kernel_rfl) ?_; intro κ ξ hκ hξ
        try simp +decide only [go_sem, Nat.reduceMul, Nat.reduceAdd, Nat.reduceBEq, cond_false, hlw, c0, hb4, hi0, hw1, c1]
        repeat with_reducible refine And.intro (by first | assumption | omega | (simp; done) | (simp; omega) | (intro hg; simp +decide only [go_sem, hg]; done) | (intro hg; simp +decide only [go_sem, hg]; omega)) ?_
        refine hκ _ _ ?_; clear hκ hξ ξ κ
        refine ⟨0 + 1, ⟨⟨by omega, ?_⟩, by omega⟩, EnvLe.of_eq (by first | rfl | (rw [w64 (by omega)]; rfl)), List.nil_sublist _⟩
        intro j h
        rcases Nat.lt_succ_iff_lt_or_eq.1 h with h | rfl
        · exact hj j h
        · rw [vok_true]
          try simp only [Nat.add_sub_cancel]
          exact ⟨by omega, by first | exact c1.2 | exact c1.1.1.1.1.1 | exact c1.1.1.1.1⟩
    · have hk1 : ((k + 1 : Nat) : Int) = (k : Int) + 1 := rfl
      have hk0 : (0 : Int) < (k : Int) + 1 := by omega
      have hkw : IntKind.wrap .i64 ((k : Int) + 1 - 1) = k := by rw [w64 (by omega)]; omega
      have hkl : (k : Int) < l.length := by omega
      have hkl2 : (k : Int) + 1 < l.length := by omega
      have hk3 : IntKind.wrap .i64 ((k : Int) + 1 + 1) = (k : Int) + 2 := by rw [w64 (by omega)]; omega
      refine rgd [0, 6, 7, 8, 65] [] [63] [(3, 21), (8, 26), (11, 29), (23, 41), (28, 46), (33, 51), (37, 55), (42, 60)] (by kernel_rfl) (by kernel_rfl) ?_; intro κ ξ hκ hξ
      try simp +decide only [go_sem, Nat.reduceMul, Nat.reduceAdd, Nat.reduceBEq, cond_false, hlw, c0, hb4, hk1, hk0, hkw, hkl, hkl2, hk3]
      repeat with_reducible refine And.intro (by first | assumption | omega | (simp; done) | (simp; omega) | (intro hg; simp +decide only [go_sem, hg]; done) | (intro hg; simp +decide only [go_sem, hg]; omega)) ?_
      refine vd_gc (by rfl) ?_; simp +decide only [go_sem, hlw, c0, hb4, hk1, hk0, hkw, hkl, hkl2, hk3]; refine gcallF (fun hg => ⟨by first | rfl | (simp +decide only [go_sem, hg, hlw, c0, hb4, hk1, hk0, hkw, hkl, hkl2, hk3]; done) | exact hg | simpa using hg, cov_w _⟩) ?_
      try simp +decide only [go_sem, Nat.reduceMul, Nat.reduceAdd, Nat.reduceBEq, cond_false, hlw, c0, hb4, hk1, hk0, hkw, hkl, hkl2, hk3]
      repeat with_reducible refine And.intro (by first | assumption | omega | (simp; done) | (simp; omega) | (intro hg; simp +decide only [go_sem, hg]; done) | (intro hg; simp +decide only [go_sem, hg]; omega)) ?_
      refine hκ _ _ ?_; clear hκ hξ ξ κ
      refine cd (by rfl) (fun c2 => ?_) (fun c2 => ?_)
      · try simp only [go_sem] at c2
        refine sq ?_
        refine rg [2] [] [] (by kernel_rfl) ?_; intro κ ξ hκ hξ
        try simp +decide only [go_sem, Nat.reduceMul, Nat.reduceAdd, Nat.reduceBEq, cond_false, hlw, c0, hb4, hk1, hk0, hkw, hkl, hkl2, hk3, c2]
        repeat with_reducible refine And.intro (by first | assumption | omega | (simp; done) | (simp; omega) | (intro hg; simp +decide only [go_sem, hg]; done) | (intro hg; simp +decide only [go_sem, hg]; omega)) ?_
        refine hκ _ _ ?_; clear hκ hξ ξ κ
        refine rt ?_
        refine retE ?_
        simp +decide only [go_sem, resD, resV, hlw, c0, hb4, hk1, hk0, hkw, hkl, hkl2, hk3, c2]
        congr 1
        symm
        refine ver_no (i := (k + 1)) (by omega) ?_
        rw [← Bool.not_eq_true, vok_true]
        try simp only [Nat.add_sub_cancel]
        rintro ⟨⟨a, b, c, d⟩, e⟩
        simp [e] at c2
        omega
      · try simp only [go_sem] at c2
        refine sk ?_
        refine rg [0, 6, 7, 8] [] [] (by kernel_rfl) ?_; intro κ ξ hκ hξ
        try simp +decide only [go_sem, Nat.reduceMul, Nat.reduceAdd, Nat.reduceBEq, cond_false, hlw, c0, hb4, hk1, hk0, hkw, hkl, hkl2, hk3, c2]
        repeat with_reducible refine And.intro (by first | assumption | omega | (simp; done) | (simp; omega) | (intro hg; simp +decide only [go_sem, hg]; done) | (intro hg; simp +decide only [go_sem, hg]; omega)) ?_
        refine hκ _ _ ?_; clear hκ hξ ξ κ
        refine ⟨(k + 1) + 1, ⟨⟨by omega, ?_⟩, by omega⟩, EnvLe.of_eq (by first | rfl | (rw [w64 (by omega)]; rfl)), List.nil_sublist _⟩
        intro j h
        rcases Nat.lt_succ_iff_lt_or_eq.1 h with h | rfl
        · exact hj j h
        · rw [vok_true]
          try simp only [Nat.add_sub_cancel]
          exact ⟨by omega, by first | exact c2.2 | exact c2.1.1.1.1.1.1 | exact c2.1.1.1.1.1⟩
  · try simp only [go_sem] at c0
    refine ex ?_
    refine sq ?_
    refine rg [2] [] [] (by kernel_rfl) ?_; intro κ ξ hκ hξ
    try simp +decide only [go_sem, Nat.reduceMul, Nat.reduceAdd, Nat.reduceBEq, cond_false, hlw, c0]
    repeat with_reducible refine And.intro (by first | assumption | omega | (simp; done) | (simp; omega) | (intro hg; simp +decide only [go_sem, hg]; done) | (intro hg; simp +decide only [go_sem, hg]; omega)) ?_
    refine hκ _ _ ?_; clear hκ hξ ξ κ
    refine rt ?_
    refine retE ?_
    simp +decide only [go_sem, resD, resV, hlw, c0]
    congr 1
    rw [ver_all fun j h => hj j (by omega), decide_eq_decide]
    omega

end Go.Proofs.YtjjkgeeafjagkaaGreat

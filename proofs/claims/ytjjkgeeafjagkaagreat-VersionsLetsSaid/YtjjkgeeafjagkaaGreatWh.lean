/- The walks of searches among versions. Printed by a tool of our own. -/
import Derived.Test.YtjjkgeeafjagkaaGreatWc
import Derived.Test.YtjjkgeeafjagkaaGreatVd
import Derived.Test.YtjjkgeeafjagkaaGreatProg
import Derived.Deep.RegionLaw
import Derived.Deep.LoopGhost
import Derived.WalkKit
import Derived.Shelf.RegionOpenPlain
import Derived.Lib.Walk
import Derived.Sort.WalkB12
import Derived.Lib.SliceRun
import Derived.Lib.SlicesDelete
import Derived.Lib.LazyBuf
namespace Go.Proofs.YtjjkgeeafjagkaaGreat
open Go Go.RowKit
set_option linter.unusedSimpArgs false
set_option linter.unusedVariables false
set_option maxHeartbeats 4000000
set_option maxRecDepth 100000
attribute [local go_sem] List.length_map rowAt_n nrow rowAt_t trow rowAt_i irow
attribute [local go_sem] rowAt_e rowAt_tm rowAt_dc rowAt_ru tmrow dcrow rurow
attribute [local go_sem] rowAt_br rowAt_s rowAt_fo rowAt_ve rowAt_g rowAt_k grow krow srow brrow forow dorow verow
theorem isnani_w (x : Int) : PCall Tryz.prog (.func 74) [.int .i64 x] (.bool false) := by
  refine PCall.le ?_
  refine fn_ Tryz.func74 (by rfl) (by rfl) (rs := [.tmp 2]) (by rfl) (by simp [Tryz.f74]) ?_
  refine sq ?_
  refine rg [0] [] [] (by kernel_rfl) ?_; intro κ ξ hκ hξ
  try simp +decide only [go_sem, Nat.reduceMul, Nat.reduceAdd, Nat.reduceBEq, cond_false]
  repeat with_reducible refine And.intro (by first | assumption | omega | (simp; done) | (simp; omega) | (intro hg; simp +decide only [go_sem, hg]; done) | (intro hg; simp +decide only [go_sem, hg]; omega)) ?_
  refine hκ _ _ ?_; clear hκ hξ ξ κ
  refine sq ?_
  refine rg [2] [] [] (by kernel_rfl) ?_; intro κ ξ hκ hξ
  try simp +decide only [go_sem, Nat.reduceMul, Nat.reduceAdd, Nat.reduceBEq, cond_false]
  repeat with_reducible refine And.intro (by first | assumption | omega | (simp; done) | (simp; omega) | (intro hg; simp +decide only [go_sem, hg]; done) | (intro hg; simp +decide only [go_sem, hg]; omega)) ?_
  refine hκ _ _ ?_; clear hκ hξ ξ κ
  refine rt ?_
  refine retE ?_
  simp +decide only [go_sem, resD, resV]
  

theorem cmpi_w (x y : Int) : PCall Tryz.prog (.func 55) [.int .i64 x, .int .i64 y] (.int .i64 (icmp x y)) := by
  refine PCall.le ?_
  refine fn_ Tryz.func55 (by rfl) (by rfl) (rs := [.tmp 4]) (by rfl) (by simp [Tryz.f55]) ?_
  refine sq ?_
  refine rg [0, 1] [] [] (by kernel_rfl) ?_; intro κ ξ hκ hξ
  try simp +decide only [go_sem, Nat.reduceMul, Nat.reduceAdd, Nat.reduceBEq, cond_false]
  repeat with_reducible refine And.intro (by first | assumption | omega | (simp; done) | (simp; omega) | (intro hg; simp +decide only [go_sem, hg]; done) | (intro hg; simp +decide only [go_sem, hg]; omega)) ?_
  refine hκ _ _ ?_; clear hκ hξ ξ κ
  refine sq ?_
  refine rg [0, 1, 5] [] [] (by kernel_rfl) ?_; intro κ ξ hκ hξ
  try simp +decide only [go_sem, Nat.reduceMul, Nat.reduceAdd, Nat.reduceBEq, cond_false]
  repeat with_reducible refine And.intro (by first | assumption | omega | (simp; done) | (simp; omega) | (intro hg; simp +decide only [go_sem, hg]; done) | (intro hg; simp +decide only [go_sem, hg]; omega)) ?_
  refine callF (isnani_w _) ?_
  try simp +decide only [go_sem, Nat.reduceMul, Nat.reduceAdd, Nat.reduceBEq, cond_false]
  repeat with_reducible refine And.intro (by first | assumption | omega | (simp; done) | (simp; omega) | (intro hg; simp +decide only [go_sem, hg]; done) | (intro hg; simp +decide only [go_sem, hg]; omega)) ?_
  refine hκ _ _ ?_; clear hκ hξ ξ κ
  refine sq ?_
  refine rg [0, 1, 5, 6] [] [] (by kernel_rfl) ?_; intro κ ξ hκ hξ
  try simp +decide only [go_sem, Nat.reduceMul, Nat.reduceAdd, Nat.reduceBEq, cond_false]
  repeat with_reducible refine And.intro (by first | assumption | omega | (simp; done) | (simp; omega) | (intro hg; simp +decide only [go_sem, hg]; done) | (intro hg; simp +decide only [go_sem, hg]; omega)) ?_
  refine callF (isnani_w _) ?_
  try simp +decide only [go_sem, Nat.reduceMul, Nat.reduceAdd, Nat.reduceBEq, cond_false]
  repeat with_reducible refine And.intro (by first | assumption | omega | (simp; done) | (simp; omega) | (intro hg; simp +decide only [go_sem, hg]; done) | (intro hg; simp +decide only [go_sem, hg]; omega)) ?_
  refine hκ _ _ ?_; clear hκ hξ ξ κ
  refine sq ?_
  refine sq ?_
  refine rg [0, 1, 6, 11] [] [] (by kernel_rfl) ?_; intro κ ξ hκ hξ
  try simp +decide only [go_sem, Nat.reduceMul, Nat.reduceAdd, Nat.reduceBEq, cond_false]
  repeat with_reducible refine And.intro (by first | assumption | omega | (simp; done) | (simp; omega) | (intro hg; simp +decide only [go_sem, hg]; done) | (intro hg; simp +decide only [go_sem, hg]; omega)) ?_
  refine hκ _ _ ?_; clear hκ hξ ξ κ
  refine cdf (by rfl) ?_
  refine sk ?_
  refine sq ?_
  refine sq ?_
  refine rg [0, 1, 13] [] [] (by kernel_rfl) ?_; intro κ ξ hκ hξ
  try simp +decide only [go_sem, Nat.reduceMul, Nat.reduceAdd, Nat.reduceBEq, cond_false]
  repeat with_reducible refine And.intro (by first | assumption | omega | (simp; done) | (simp; omega) | (intro hg; simp +decide only [go_sem, hg]; done) | (intro hg; simp +decide only [go_sem, hg]; omega)) ?_
  refine hκ _ _ ?_; clear hκ hξ ξ κ
  refine cdf (by rfl) ?_
  refine sk ?_
  refine sq ?_
  refine sq ?_
  refine rg [0, 1, 16] [] [] (by kernel_rfl) ?_; intro κ ξ hκ hξ
  try simp +decide only [go_sem, Nat.reduceMul, Nat.reduceAdd, Nat.reduceBEq, cond_false]
  repeat with_reducible refine And.intro (by first | assumption | omega | (simp; done) | (simp; omega) | (intro hg; simp +decide only [go_sem, hg]; done) | (intro hg; simp +decide only [go_sem, hg]; omega)) ?_
  refine hκ _ _ ?_; clear hκ hξ ξ κ
  refine cd (by rfl) (fun c0 => ?_) (fun c0 => ?_)
  · try simp only [go_sem] at c0
    refine sq ?_
    refine rg [4] [] [] (by kernel_rfl) ?_; intro κ ξ hκ hξ
    try simp +decide only [go_sem, Nat.reduceMul, Nat.reduceAdd, Nat.reduceBEq, cond_false, c0]
    repeat with_reducible refine And.intro (by first | assumption | omega | (simp; done) | (simp; omega) | (intro hg; simp +decide only [go_sem, hg]; done) | (intro hg; simp +decide only [go_sem, hg]; omega)) ?_
    refine hκ _ _ ?_; clear hκ hξ ξ κ
    refine rt ?_
    refine retE ?_
    simp +decide only [go_sem, resD, resV, c0]
    all_goals congr 1
    all_goals unfold icmp
    all_goals (repeat (first | rw [if_pos (by omega)] | rw [if_neg (by omega)]))
  · try simp only [go_sem] at c0
    refine sk ?_
    refine sq ?_
    refine sq ?_
    refine rg [19] [] [] (by kernel_rfl) ?_; intro κ ξ hκ hξ
    try simp +decide only [go_sem, Nat.reduceMul, Nat.reduceAdd, Nat.reduceBEq, cond_false, c0]
    repeat with_reducible refine And.intro (by first | assumption | omega | (simp; done) | (simp; omega) | (intro hg; simp +decide only [go_sem, hg]; done) | (intro hg; simp +decide only [go_sem, hg]; omega)) ?_
    refine hκ _ _ ?_; clear hκ hξ ξ κ
    refine cd (by rfl) (fun c1 => ?_) (fun c1 => ?_)
    · try simp only [go_sem] at c1
      refine sq ?_
      refine rg [4] [] [] (by kernel_rfl) ?_; intro κ ξ hκ hξ
      try simp +decide only [go_sem, Nat.reduceMul, Nat.reduceAdd, Nat.reduceBEq, cond_false, c0, c1]
      repeat with_reducible refine And.intro (by first | assumption | omega | (simp; done) | (simp; omega) | (intro hg; simp +decide only [go_sem, hg]; done) | (intro hg; simp +decide only [go_sem, hg]; omega)) ?_
      refine hκ _ _ ?_; clear hκ hξ ξ κ
      refine rt ?_
      refine retE ?_
      simp +decide only [go_sem, resD, resV, c0, c1]
      all_goals congr 1
      all_goals unfold icmp
      all_goals (repeat (first | rw [if_pos (by omega)] | rw [if_neg (by omega)]))
    · try simp only [go_sem] at c1
      refine sk ?_
      refine sq ?_
      refine rg [4] [] [] (by kernel_rfl) ?_; intro κ ξ hκ hξ
      try simp +decide only [go_sem, Nat.reduceMul, Nat.reduceAdd, Nat.reduceBEq, cond_false, c0, c1]
      repeat with_reducible refine And.intro (by first | assumption | omega | (simp; done) | (simp; omega) | (intro hg; simp +decide only [go_sem, hg]; done) | (intro hg; simp +decide only [go_sem, hg]; omega)) ?_
      refine hκ _ _ ?_; clear hκ hξ ξ κ
      refine rt ?_
      refine retE ?_
      simp +decide only [go_sem, resD, resV, c0, c1]
      all_goals congr 1
      all_goals unfold icmp
      all_goals (repeat (first | rw [if_pos (by omega)] | rw [if_neg (by omega)]))

theorem vnum_w (v : Ve) : PCall Tryz.prog (.func 32) [.ag (verow v)] (.int .i64 v.num) := by
  refine PCall.le ?_
  refine fn_ Tryz.func32 (by rfl) (by rfl) (rs := [.tmp 2]) (by rfl) (by simp [Tryz.f32]) ?_
  refine sq ?_
  refine rg [1] [1] [] (by kernel_rfl) ?_; intro κ ξ hκ hξ
  try simp +decide only [go_sem, Nat.reduceMul, Nat.reduceAdd, Nat.reduceBEq, cond_false]
  repeat with_reducible refine And.intro (by first | assumption | omega | (simp; done) | (simp; omega) | (intro hg; simp +decide only [go_sem, hg]; done) | (intro hg; simp +decide only [go_sem, hg]; omega)) ?_
  refine hκ _ _ ?_; clear hκ hξ ξ κ
  refine sq ?_
  refine rg [2] [] [] (by kernel_rfl) ?_; intro κ ξ hκ hξ
  try simp +decide only [go_sem, Nat.reduceMul, Nat.reduceAdd, Nat.reduceBEq, cond_false]
  repeat with_reducible refine And.intro (by first | assumption | omega | (simp; done) | (simp; omega) | (intro hg; simp +decide only [go_sem, hg]; done) | (intro hg; simp +decide only [go_sem, hg]; omega)) ?_
  refine hκ _ _ ?_; clear hκ hξ ξ κ
  refine rt ?_
  refine retE ?_
  simp +decide only [go_sem, resD, resV]
  

theorem vf1_w (v : Ve) (k : Int) : PCall Tryz.prog (.func 54) [.ag (verow v), .int .i64 k, .el [.fn (.func 32) [] []]] (.int .i64 (icmp v.num k)) := by
  refine PCall.le ?_
  refine fn_ Tryz.func54 (by rfl) (by rfl) (rs := [.tmp 5]) (by rfl) (by simp [Tryz.f54]) ?_
  refine sq ?_
  refine rg [1, 2, 3] [3] [] (by kernel_rfl) ?_; intro κ ξ hκ hξ
  try simp +decide only [go_sem, Nat.reduceMul, Nat.reduceAdd, Nat.reduceBEq, cond_false]
  repeat with_reducible refine And.intro (by first | assumption | omega | (simp; done) | (simp; omega) | (intro hg; simp +decide only [go_sem, hg]; done) | (intro hg; simp +decide only [go_sem, hg]; omega)) ?_
  refine hκ _ _ ?_; clear hκ hξ ξ κ
  refine sq ?_
  refine rg [5] [] [] (by kernel_rfl) ?_; intro κ ξ hκ hξ
  try simp +decide only [go_sem, Nat.reduceMul, Nat.reduceAdd, Nat.reduceBEq, cond_false]
  repeat with_reducible refine And.intro (by first | assumption | omega | (simp; done) | (simp; omega) | (intro hg; simp +decide only [go_sem, hg]; done) | (intro hg; simp +decide only [go_sem, hg]; omega)) ?_
  refine callF (vnum_w _) ?_
  try simp +decide only [go_sem, Nat.reduceMul, Nat.reduceAdd, Nat.reduceBEq, cond_false]
  repeat with_reducible refine And.intro (by first | assumption | omega | (simp; done) | (simp; omega) | (intro hg; simp +decide only [go_sem, hg]; done) | (intro hg; simp +decide only [go_sem, hg]; omega)) ?_
  refine callF (cmpi_w _ _) ?_
  try simp +decide only [go_sem, Nat.reduceMul, Nat.reduceAdd, Nat.reduceBEq, cond_false]
  repeat with_reducible refine And.intro (by first | assumption | omega | (simp; done) | (simp; omega) | (intro hg; simp +decide only [go_sem, hg]; done) | (intro hg; simp +decide only [go_sem, hg]; omega)) ?_
  refine hκ _ _ ?_; clear hκ hξ ξ κ
  refine rt ?_
  refine retE ?_
  simp +decide only [go_sem, resD, resV]
  

theorem bsv_w (l : List Ve) (t : Tok) (b : Int) (hn : l.length ≤ 1000) (m : Nat) (hm : m ≤ l.length) (hlo : ∀ k, k < m → icmp (veat l k).num b < 0) (hhi : ∀ k, m ≤ k → k < l.length → 0 ≤ icmp (veat l k).num b) : PCall Tryz.prog (.func 53) [.sl 6 (l.map verow) t, .int .i64 b, .fn (.func 54) [] [.el [.fn (.func 32) [] []]]] (.tup [.int .i64 m, .bool (decide (m < l.length ∧ icmp (veat l m).num b = 0))]) := by
  refine PCall.ok fun hok => ?_
  simp only [okAll, D.ok, okRows, and_true, true_and, lim_eq, inR_i64', inR_i32', inR_u8', inR_u16', inR_u64'] at hok
  obtain ⟨⟨hl, hr⟩, hx⟩ := hok; rw [List.length_map] at hl
  refine PCall.le ?_
  refine fn_ Tryz.func53 (by rfl) (by rfl) (rs := [.tmp 6, .tmp 7]) (by rfl) (by simp [Tryz.f53]) ?_
  refine sq ?_
  refine rg [0, 1, 2] [] [] (by kernel_rfl) ?_; intro κ ξ hκ hξ
  try simp +decide only [go_sem, Nat.reduceMul, Nat.reduceAdd, Nat.reduceBEq, cond_false]
  repeat with_reducible refine And.intro (by first | assumption | omega | (simp; done) | (simp; omega) | (intro hg; simp +decide only [go_sem, hg]; done) | (intro hg; simp +decide only [go_sem, hg]; omega)) ?_
  refine hκ _ _ ?_; clear hκ hξ ξ κ
  refine sq ?_
  refine rg [0, 1, 2, 8] [] [] (by kernel_rfl) ?_; intro κ ξ hκ hξ
  try simp +decide only [go_sem, Nat.reduceMul, Nat.reduceAdd, Nat.reduceBEq, cond_false]
  repeat with_reducible refine And.intro (by first | assumption | omega | (simp; done) | (simp; omega) | (intro hg; simp +decide only [go_sem, hg]; done) | (intro hg; simp +decide only [go_sem, hg]; omega)) ?_
  refine hκ _ _ ?_; clear hκ hξ ξ κ
  refine sq ?_
  refine rg [0, 1, 2, 8, 9, 10] [] [] (by kernel_rfl) ?_; intro κ ξ hκ hξ
  try simp +decide only [go_sem, Nat.reduceMul, Nat.reduceAdd, Nat.reduceBEq, cond_false]
  repeat with_reducible refine And.intro (by first | assumption | omega | (simp; done) | (simp; omega) | (intro hg; simp +decide only [go_sem, hg]; done) | (intro hg; simp +decide only [go_sem, hg]; omega)) ?_
  refine hκ _ _ ?_; clear hκ hξ ξ κ
  refine sq ?_
  refine bl ?_
  refine lp (α := Nat × Nat) (fun x => mk [(0, .sl 6 (l.map verow) t), (1, .int .i64 b), (2, .fn (.func 54) [] [.el [.fn (.func 32) [] []]]), (8, .int .i64 l.length), (9, .int .i64 x.1), (10, .int .i64 x.2)]) (fun _ => []) (fun x => x.1 ≤ x.2 ∧ x.2 ≤ l.length ∧ x.1 ≤ m ∧ m ≤ x.2) (fun x => x.2 - x.1) (0, l.length) ⟨⟨by omega, by omega, by omega, by omega⟩, EnvLe.of_eq rfl, .refl _⟩ ?_
  rintro ⟨i, j⟩ ⟨h1, h2, h3, h4⟩
  simp only at h1 h2 h3 h4
  refine sq ?_
  refine sq ?_
  refine rg [0, 1, 2, 8, 9, 10, 17] [] [] (by kernel_rfl) ?_; intro κ ξ hκ hξ
  try simp +decide only [go_sem, Nat.reduceMul, Nat.reduceAdd, Nat.reduceBEq, cond_false]
  repeat with_reducible refine And.intro (by first | assumption | omega | (simp; done) | (simp; omega) | (intro hg; simp +decide only [go_sem, hg]; done) | (intro hg; simp +decide only [go_sem, hg]; omega)) ?_
  refine hκ _ _ ?_; clear hκ hξ ξ κ
  refine cd (by rfl) (fun c0 => ?_) (fun c0 => ?_)
  · simp only [go_sem] at c0
    refine sk ?_
    refine bl ?_
    refine sq ?_
    refine rg [0, 1, 2, 8, 9, 10, 11] [] [] (by kernel_rfl) ?_; intro κ ξ hκ hξ
    try simp +decide only [go_sem, Nat.reduceMul, Nat.reduceAdd, Nat.reduceBEq, cond_false, c0]
    repeat with_reducible refine And.intro (by first | assumption | omega | (simp; done) | (simp; omega) | (intro hg; simp +decide only [go_sem, hg]; done) | (intro hg; simp +decide only [go_sem, hg]; omega)) ?_
    simp only [mid_eq (show i + j ≤ 562949953421312 by omega)]
    have hmid : (((i + j) / 2 : Nat) : Int) < l.length := by omega
    refine hκ _ _ ?_; clear hκ hξ ξ κ
    refine sq ?_
    refine rg [0, 1, 2, 8, 9, 10, 11, 31] [] [] (by kernel_rfl) ?_; intro κ ξ hκ hξ
    try simp +decide only [go_sem, Nat.reduceMul, Nat.reduceAdd, Nat.reduceBEq, cond_false, c0, hmid]
    repeat with_reducible refine And.intro (by first | assumption | omega | (simp; done) | (simp; omega) | (intro hg; simp +decide only [go_sem, hg]; done) | (intro hg; simp +decide only [go_sem, hg]; omega)) ?_
    refine callP (vf1_w _ _) ?_
    try simp +decide only [go_sem, Nat.reduceMul, Nat.reduceAdd, Nat.reduceBEq, cond_false, c0, hmid]
    repeat with_reducible refine And.intro (by first | assumption | omega | (simp; done) | (simp; omega) | (intro hg; simp +decide only [go_sem, hg]; done) | (intro hg; simp +decide only [go_sem, hg]; omega)) ?_
    refine hκ _ _ ?_; clear hκ hξ ξ κ
    refine cd (by rfl) (fun c1 => ?_) (fun c1 => ?_)
    · try simp only [go_sem] at c1
      refine rg [0, 1, 2, 8, 9, 10] [] [] (by kernel_rfl) ?_; intro κ ξ hκ hξ
      try simp +decide only [go_sem, Nat.reduceMul, Nat.reduceAdd, Nat.reduceBEq, cond_false, c0, hmid, c1]
      repeat with_reducible refine And.intro (by first | assumption | omega | (simp; done) | (simp; omega) | (intro hg; simp +decide only [go_sem, hg]; done) | (intro hg; simp +decide only [go_sem, hg]; omega)) ?_
      refine hκ _ _ ?_; clear hκ hξ ξ κ
      refine ⟨((i + j) / 2 + 1, j), ⟨⟨by omega, by omega, ?_, by omega⟩, by omega⟩, EnvLe.of_eq (by rw [w64 (by omega)]; rfl), .refl _⟩
      refine Nat.lt_of_not_le fun h => ?_
      have := hhi _ h (by omega)
      omega
    · try simp only [go_sem] at c1
      refine rg [0, 1, 2, 8, 9, 10] [] [] (by kernel_rfl) ?_; intro κ ξ hκ hξ
      try simp +decide only [go_sem, Nat.reduceMul, Nat.reduceAdd, Nat.reduceBEq, cond_false, c0, hmid, c1]
      repeat with_reducible refine And.intro (by first | assumption | omega | (simp; done) | (simp; omega) | (intro hg; simp +decide only [go_sem, hg]; done) | (intro hg; simp +decide only [go_sem, hg]; omega)) ?_
      refine hκ _ _ ?_; clear hκ hξ ξ κ
      refine ⟨(i, (i + j) / 2), ⟨⟨by omega, by omega, by omega, ?_⟩, by omega⟩, EnvLe.of_eq rfl, .refl _⟩
      refine Nat.le_of_not_lt fun h => ?_
      simp only at h
      have := hlo _ h
      omega
  · simp only [go_sem] at c0
    obtain rfl : m = i := by omega
    refine ex ?_
    refine sq ?_
    refine rg [6, 7] [] [(4, 39)] (by kernel_rfl) ?_; intro κ ξ hκ hξ
    try simp +decide only [go_sem, Nat.reduceMul, Nat.reduceAdd, Nat.reduceBEq, cond_false, c0]
    repeat with_reducible refine And.intro (by first | assumption | omega | (simp; done) | (simp; omega) | (intro hg; simp +decide only [go_sem, hg]; done) | (intro hg; simp +decide only [go_sem, hg]; omega)) ?_
    refine vo_gc ?_; simp +decide only [go_sem, c0]
    refine gcallP (d := .int .i64 (icmp (veat l m).num b)) (fun hg => ⟨by first | rfl | (simp +decide only [go_sem, hg]; done) | trace_state, ?_⟩) ?_
    · have hg' : (m : Int) < l.length := of_decide_eq_true hg
      simp only [go_sem, hg']; exact vf1_w _ _
    try simp +decide only [go_sem, Nat.reduceMul, Nat.reduceAdd, Nat.reduceBEq, cond_false, c0]
    repeat with_reducible refine And.intro (by first | assumption | omega | (simp; done) | (simp; omega) | (intro hg; simp +decide only [go_sem, hg]; done) | (intro hg; simp +decide only [go_sem, hg]; omega)) ?_
    refine hκ _ _ ?_; clear hκ hξ ξ κ
    refine rt ?_
    refine retE ?_
    simp +decide only [go_sem, resD, resV, c0]
    simp only [Int.ofNat_lt, Bool.decide_and]

theorem vfind_w (l : List Ve) (t : Tok) (b : Int) (hv : verB l = true) : PCall Tryz.prog (.func 31) [.sl 6 (l.map verow) t, .int .i64 b, .fn (.func 32) [] []] (.tup [.int .i64 (if 0 ≤ vix l b then vix l b else 0), .int .i64 (if 0 ≤ vix l b then 0 else 4)]) := by
  have hs := ver_sorted hv
  have hn : l.length ≤ 1000 := by have := (ver_true.1 hv).1; omega
  obtain ⟨m, hm, hlo, hhi⟩ := vm hs b
  have hix := vm_ix hm hlo hhi hs
  refine PCall.le ?_
  refine fn_ Tryz.func31 (by rfl) (by rfl) (rs := [.tmp 6, .tmp 7]) (by rfl) (by simp [Tryz.f31]) ?_
  refine sq ?_
  refine rg [0, 1, 5] [5] [] (by kernel_rfl) ?_; intro κ ξ hκ hξ
  try simp +decide only [go_sem, Nat.reduceMul, Nat.reduceAdd, Nat.reduceBEq, cond_false]
  repeat with_reducible refine And.intro (by first | assumption | omega | (simp; done) | (simp; omega) | (intro hg; simp +decide only [go_sem, hg]; done) | (intro hg; simp +decide only [go_sem, hg]; omega)) ?_
  refine hκ _ _ ?_; clear hκ hξ ξ κ
  refine sq ?_
  refine rg [8, 9] [] [] (by kernel_rfl) ?_; intro κ ξ hκ hξ
  try simp +decide only [go_sem, Nat.reduceMul, Nat.reduceAdd, Nat.reduceBEq, cond_false]
  repeat with_reducible refine And.intro (by first | assumption | omega | (simp; done) | (simp; omega) | (intro hg; simp +decide only [go_sem, hg]; done) | (intro hg; simp +decide only [go_sem, hg]; omega)) ?_
  refine callF (bsv_w l _ b hn m hm hlo hhi) ?_
  try simp +decide only [go_sem, Nat.reduceMul, Nat.reduceAdd, Nat.reduceBEq, cond_false]
  repeat with_reducible refine And.intro (by first | assumption | omega | (simp; done) | (simp; omega) | (intro hg; simp +decide only [go_sem, hg]; done) | (intro hg; simp +decide only [go_sem, hg]; omega)) ?_
  refine hκ _ _ ?_; clear hκ hξ ξ κ
  refine sq ?_
  refine sq ?_
  refine rg [8, 18] [] [] (by kernel_rfl) ?_; intro κ ξ hκ hξ
  try simp +decide only [go_sem, Nat.reduceMul, Nat.reduceAdd, Nat.reduceBEq, cond_false]
  repeat with_reducible refine And.intro (by first | assumption | omega | (simp; done) | (simp; omega) | (intro hg; simp +decide only [go_sem, hg]; done) | (intro hg; simp +decide only [go_sem, hg]; omega)) ?_
  refine hκ _ _ ?_; clear hκ hξ ξ κ
  refine cd (by rfl) (fun c0 => ?_) (fun c0 => ?_)
  · try simp only [go_sem] at c0
    refine sq ?_
    refine rg [6, 7] [] [] (by kernel_rfl) ?_; intro κ ξ hκ hξ
    try simp +decide only [go_sem, Nat.reduceMul, Nat.reduceAdd, Nat.reduceBEq, cond_false, c0]
    repeat with_reducible refine And.intro (by first | assumption | omega | (simp; done) | (simp; omega) | (intro hg; simp +decide only [go_sem, hg]; done) | (intro hg; simp +decide only [go_sem, hg]; omega)) ?_
    refine hκ _ _ ?_; clear hκ hξ ξ κ
    refine rt ?_
    refine retE ?_
    simp +decide only [go_sem, resD, resV, c0]
    rcases hix with ⟨h1, h2, h3⟩ | ⟨h1, h3⟩
    · exfalso; omega
    · rw [h3]; rfl
  · try simp only [go_sem] at c0
    refine sk ?_
    refine sq ?_
    refine rg [6, 7] [] [] (by kernel_rfl) ?_; intro κ ξ hκ hξ
    try simp +decide only [go_sem, Nat.reduceMul, Nat.reduceAdd, Nat.reduceBEq, cond_false, c0]
    repeat with_reducible refine And.intro (by first | assumption | omega | (simp; done) | (simp; omega) | (intro hg; simp +decide only [go_sem, hg]; done) | (intro hg; simp +decide only [go_sem, hg]; omega)) ?_
    refine hκ _ _ ?_; clear hκ hξ ξ κ
    refine rt ?_
    refine retE ?_
    simp +decide only [go_sem, resD, resV, c0]
    rcases hix with ⟨h1, h2, h3⟩ | ⟨h1, h3⟩
    · rw [h3, if_pos (by omega), if_pos (by omega)]
    · exfalso; omega

theorem vix_w (l : List Ve) (t : Tok) (n : Int) : PCall Tryz.prog (.func 33) [.sl 6 (l.map verow) t, .int .i64 n] (.int .i64 (vix l n)) := by
  refine PCall.ok fun hok => ?_
  simp only [okAll, D.ok, okRows, and_true, true_and, lim_eq, inR_i64', inR_i32', inR_u8', inR_u16', inR_u64'] at hok
  obtain ⟨⟨hl, hr⟩, hx⟩ := hok; rw [List.length_map] at hl
  refine PCall.le ?_
  refine fn_ Tryz.func33 (by rfl) (by rfl) (rs := [.tmp 4]) (by rfl) (by simp [Tryz.f33]) ?_
  refine sq ?_
  refine rg [0, 1] [] [] (by kernel_rfl) ?_; intro κ ξ hκ hξ
  try simp +decide only [go_sem, Nat.reduceMul, Nat.reduceAdd, Nat.reduceBEq, cond_false]
  repeat with_reducible refine And.intro (by first | assumption | omega | (simp; done) | (simp; omega) | (intro hg; simp +decide only [go_sem, hg]; done) | (intro hg; simp +decide only [go_sem, hg]; omega)) ?_
  refine hκ _ _ ?_; clear hκ hξ ξ κ
  refine sq ?_
  refine sq ?_
  refine rg [0, 1, 5] [] [] (by kernel_rfl) ?_; intro κ ξ hκ hξ
  try simp +decide only [go_sem, Nat.reduceMul, Nat.reduceAdd, Nat.reduceBEq, cond_false]
  repeat with_reducible refine And.intro (by first | assumption | omega | (simp; done) | (simp; omega) | (intro hg; simp +decide only [go_sem, hg]; done) | (intro hg; simp +decide only [go_sem, hg]; omega)) ?_
  refine hκ _ _ ?_; clear hκ hξ ξ κ
  refine bl ?_
  refine lp (α := Nat) (fun i => mk [(0, .sl 6 (l.map verow) t), (1, .int .i64 n), (5, .int .i64 i)]) (fun i => []) (fun i => i ≤ l.length ∧ ∀ j, j < i → (veat l j).num ≠ n) (fun i => l.length - i) 0 ⟨⟨by omega, by intro j hj; omega⟩, EnvLe.of_eq rfl, .refl _⟩ ?_
  rintro i ⟨hi, hj⟩
  refine sq ?_
  refine sq ?_
  refine rg [0, 1, 5, 9] [] [] (by kernel_rfl) ?_; intro κ ξ hκ hξ
  try simp +decide only [go_sem, Nat.reduceMul, Nat.reduceAdd, Nat.reduceBEq, cond_false]
  repeat with_reducible refine And.intro (by first | assumption | omega | (simp; done) | (simp; omega) | (intro hg; simp +decide only [go_sem, hg]; done) | (intro hg; simp +decide only [go_sem, hg]; omega)) ?_
  refine hκ _ _ ?_; clear hκ hξ ξ κ
  refine cd (by rfl) (fun c0 => ?_) (fun c0 => ?_)
  · try simp only [go_sem] at c0
    refine sk ?_
    refine sq ?_
    refine bl ?_
    refine sq ?_
    refine rg [0, 1, 5, 18] [] [] (by kernel_rfl) ?_; intro κ ξ hκ hξ
    try simp +decide only [go_sem, Nat.reduceMul, Nat.reduceAdd, Nat.reduceBEq, cond_false, c0]
    repeat with_reducible refine And.intro (by first | assumption | omega | (simp; done) | (simp; omega) | (intro hg; simp +decide only [go_sem, hg]; done) | (intro hg; simp +decide only [go_sem, hg]; omega)) ?_
    refine hκ _ _ ?_; clear hκ hξ ξ κ
    refine cd (by rfl) (fun c1 => ?_) (fun c1 => ?_)
    · try simp only [go_sem] at c1
      refine sq ?_
      refine rg [4] [] [] (by kernel_rfl) ?_; intro κ ξ hκ hξ
      try simp +decide only [go_sem, Nat.reduceMul, Nat.reduceAdd, Nat.reduceBEq, cond_false, c0, c1]
      repeat with_reducible refine And.intro (by first | assumption | omega | (simp; done) | (simp; omega) | (intro hg; simp +decide only [go_sem, hg]; done) | (intro hg; simp +decide only [go_sem, hg]; omega)) ?_
      refine hκ _ _ ?_; clear hκ hξ ξ κ
      refine rt ?_
      refine retE ?_
      simp +decide only [go_sem, resD, resV, c0, c1]
      congr 1
      unfold vix
      rw [fixI_some (d := ve0) (i := i) (by omega) (by simpa [veat] using c1) fun j h => by simpa [veat] using hj j h]
    · try simp only [go_sem] at c1
      refine sk ?_
      refine rg [0, 1, 5] [] [] (by kernel_rfl) ?_; intro κ ξ hκ hξ
      try simp +decide only [go_sem, Nat.reduceMul, Nat.reduceAdd, Nat.reduceBEq, cond_false, c0, c1]
      repeat with_reducible refine And.intro (by first | assumption | omega | (simp; done) | (simp; omega) | (intro hg; simp +decide only [go_sem, hg]; done) | (intro hg; simp +decide only [go_sem, hg]; omega)) ?_
      refine hκ _ _ ?_; clear hκ hξ ξ κ
      refine ⟨i + 1, ⟨⟨by omega, ?_⟩, by omega⟩, EnvLe.of_eq (by rw [w64 (by omega)]; rfl), List.nil_sublist _⟩
      intro j h
      rcases Nat.lt_succ_iff_lt_or_eq.1 h with h | rfl
      · exact hj j h
      · assumption
  · try simp only [go_sem] at c0
    refine ex ?_
    refine sq ?_
    refine rg [4] [] [] (by kernel_rfl) ?_; intro κ ξ hκ hξ
    try simp +decide only [go_sem, Nat.reduceMul, Nat.reduceAdd, Nat.reduceBEq, cond_false, c0]
    repeat with_reducible refine And.intro (by first | assumption | omega | (simp; done) | (simp; omega) | (intro hg; simp +decide only [go_sem, hg]; done) | (intro hg; simp +decide only [go_sem, hg]; omega)) ?_
    refine hκ _ _ ?_; clear hκ hξ ξ κ
    refine rt ?_
    refine retE ?_
    simp +decide only [go_sem, resD, resV, c0]
    congr 1
    unfold vix
    rw [fixI_none (d := ve0) fun j h => by simpa [veat] using hj j (by omega)]

end Go.Proofs.YtjjkgeeafjagkaaGreat
/- slices.Delete at versions, of the machine: one element is left out. After the kit's walk of slices.Delete at whole numbers. -/
namespace Go.Proofs.YtjjkgeeafjagkaaGreat
open Go Go.RowKit Go.Lib Go.Sort

theorem setCells_wr (b : Nat) : ∀ (xs : List Value) (o : Nat) (w : World) (vs : List Value) (T : TypeId) (fz : Nat × Nat), w.heap[b]? = some (.cells (List.toArray vs) T fz) → o + xs.length ≤ vs.length →
    Wr w (w.setCells b o xs) b ∧ (w.setCells b o xs).heap[b]? = some (.cells (List.toArray (vs.take o ++ xs ++ vs.drop (o + xs.length))) T fz)
  | [], o, w, vs, T, fz, h, _ => ⟨Wr.refl _ _, by simpa [World.setCells] using h⟩
  | x :: xs, o, w, vs, T, fz, h, hl => by
    simp only [List.length_cons] at hl
    obtain ⟨a, b'⟩ := setCells_wr b xs (o + 1) _ _ T fz (setCell_heap h x (o := o)) (by simp; omega)
    refine ⟨(Wr.setCell w b o x).trans a, ?_⟩
    simp only [World.setCells]
    rw [b']
    congr 2
    have e1 : (vs.set o x).take (o + 1) = vs.take o ++ [x] := by
      rw [List.take_add_one, List.take_set_of_le (Nat.le_refl _)]
      simp [show o < vs.length by omega]
    have e2 : (vs.set o x).drop (o + 1 + xs.length) = vs.drop (o + (x :: xs).length) := by
      rw [List.drop_set_of_lt (by omega)]
      congr 1
      simp; omega
    rw [e1, e2]
    simp

def zver : List Value := [.int .i64 0, .int .i64 0, .slice none 0 0, .slice none 0 0, .slice none 0 0, .slice none 0 0]
theorem run_clear_one (w : World) (t e ty : TypeId) (z : Value) (zs : List Value) (ht : Tryz.prog.underlying t = some (.slice e)) (hv : ∀ w, (zeroValue e).run Tryz.prog w = .ok z w) (hz : z.cells = zs.toArray) (h1 : ∀ u ∈ zs, u.oneCell' = true) (b o c : Nat)
    (hc : ∀ j, j < zs.length → (w.cell? ⟨b, o + j, none⟩).isSome = true) (hf : ∀ j, j < zs.length → w.frozen? ⟨b, o + j, none⟩ = false) :
    (Builtin.clear_ #[t] ty #[.slice (some ⟨b, o, none⟩) 1 c]).run Tryz.prog w = .ok (.tuple #[]) (w.setCells b o zs) := by
  have hzc : (Builtin.zeroCells z.cells 1).toList = zs := by
    rw [hz]
    simp [Builtin.zeroCells]
    apply List.ext_getElem
    · simp
    · intro i h1 h2
      simp at h1
      simp [Nat.mod_eq_of_lt h1, h1]
  have hst := run_storeCells_cells (P := Tryz.prog) b o zs 0 w (by simpa using hc) (by simpa using hf) h1
  simp only [Nat.add_zero] at hst
  simp [Builtin.clear_, run_underlying ht, hv, hzc, hst]
theorem ver_info : (Tryz.prog.info? 45).map (fun i => (i.zero, i.size, i.bytes)) = some (some (.agg zver.toArray), 6, 112) := by kernel_rfl

set_option maxHeartbeats 4000000 in
set_option maxRecDepth 1000000 in
theorem del_k (blk cap n i : Nat) (us : List Value) (T : TypeId) (w : World) (hh : w.heap[blk]? = some (.cells us.toArray T (0, 0))) (hl : us.length = cap * 6) (h1 : ∀ u ∈ us.take (n * 6), u.oneCell' = true) (hn : n ≤ cap) (hm : n ≤ 9223372036854775807) (hi : i < n) :
    Calls Tryz.prog 52 #[.slice (some ⟨blk, 0, none⟩) n cap, .int .i64 i, .int .i64 ((i : Int) + 1)] w fun e w' => e = .returned (.slice (some ⟨blk, 0, none⟩) (n - 1) cap) ∧ w' = (w.drew.setCells blk (0 + i * 6) ((us.take (n * 6)).drop ((i + 1) * 6))).setCells blk ((n - 1) * 6) zver := by
  have mixed : Tryz.prog.follows Departure.mixedOrders = true := by kernel_rfl
  obtain ⟨i0, hi0, hz0, hz1, hz2⟩ := info_parts ver_info
  obtain ⟨news, hnews⟩ : ∃ news, news = (us.take (n * 6)).drop ((i + 1) * 6) := ⟨_, rfl⟩
  have hlen : news.length = (n - (i + 1)) * 6 := by rw [hnews, List.length_drop, List.length_take]; omega
  have hget : ∀ t, t < (n - (i + 1)) * 6 → news[t]? = us[(i + 1) * 6 + t]? := by
    intro t ht
    rw [hnews, List.getElem?_drop, List.getElem?_take, if_pos (by omega)]
  obtain ⟨A, hA, hsrc⟩ : ∃ A : Addr, (if cap = i + 1 then (some ⟨blk, 0, none⟩ : Option Addr) else some ⟨blk, (i + 1) * 6, none⟩) = some A ∧ Hid (∀ t u, news[t]? = some u → w.drew.cell? (A.add t) = some u) := by
    by_cases h : cap = i + 1
    · refine ⟨⟨blk, 0, none⟩, by simp [h], fun t u hu => ?_⟩
      have h0 : news.length = 0 := by rw [hlen]; omega
      rw [List.length_eq_zero_iff.1 h0] at hu
      simp at hu
    · refine ⟨⟨blk, (i + 1) * 6, none⟩, by simp [h], fun t u hu => ?_⟩
      have ht : t < (n - (i + 1)) * 6 := by
        have := (List.getElem?_eq_some_iff.1 hu).1
        rwa [hlen] at this
      rw [hget t ht] at hu
      rw [Addr.add_lit]
      show w.cell? _ = _
      simp [World.cell?, hh, hu]
  have s1 : Hid (news.length = (n - (i + 1)) * 6) := hlen
  have s2 : Hid (∀ u ∈ news, u.oneCell' = true) := by
    intro u hu
    rw [hnews] at hu
    exact h1 u (List.mem_of_mem_drop hu)
  have s3 : Hid (∀ t, t < news.length → (w.drew.cell? ⟨blk, 0 + i * 6 + t, none⟩).isSome = true ∧ w.drew.frozen? ⟨blk, 0 + i * 6 + t, none⟩ = false) := by
    intro t ht
    rw [hlen] at ht
    refine ⟨?_, ?_⟩
    · show (w.cell? _).isSome = true
      simp [World.cell?, hh]; omega
    · show w.frozen? _ = false
      simp [World.frozen?, hh]
  obtain ⟨W1, hW1⟩ : ∃ W1, W1 = w.drew.setCells blk (0 + i * 6) news := ⟨_, rfl⟩
  obtain ⟨hwr, hheap⟩ := setCells_wr blk news (0 + i * 6) w.drew us T (0, 0) hh (by rw [hlen]; omega)
  rw [← hW1] at hwr hheap
  have hsz : (us.take (0 + i * 6) ++ news ++ us.drop (0 + i * 6 + news.length)).length = cap * 6 := by
    simp only [List.length_append, List.length_take, List.length_drop, hlen]; omega
  have hcl : ∀ ty, (Builtin.clear_ #[22] ty #[.slice (some ⟨blk, (i + (n - (i + 1))) * 6, none⟩) (n - (i + (n - (i + 1)))) (cap - (i + (n - (i + 1))))]).run Tryz.prog W1 = .ok (.tuple #[]) (W1.setCells blk ((n - 1) * 6) zver) := by
    intro ty
    rw [show i + (n - (i + 1)) = n - 1 by omega, show n - (n - 1) = 1 by omega]
    exact run_clear_one W1 22 45 ty _ zver Tryz.underlying22 Tryz.zeroValue45 rfl (by decide) blk ((n - 1) * 6) _ (fun t ht => by
      have ht' : t < 6 := ht
      simp only [World.cell?, hheap, List.getElem?_toArray]
      rw [List.getElem?_eq_getElem (by rw [hsz]; omega)]; rfl) (fun t ht => by simp [World.frozen?, hheap])
  have hW : Hid (W1 = w.drew.setCells blk (0 + i * 6) news) := hW1
  have hic : i ≤ cap := by omega
  have hjc : i + 1 ≤ cap := by omega
  have hne : ¬ (i : Int) = (i : Int) + 1 := by omega
  have hp0 : (0 : Int) ≤ (i : Int) + 1 := by omega
  have hp1 : (i : Int) + 1 ≤ (n : Int) := by omega
  have hp2 : ((i : Int) + 1).toNat = i + 1 := by omega
  have hp3 : (i : Int) ≤ (i : Int) + 1 := by omega
  have heq := hnews
  clear hW1 hwr hheap hsz hh hget hnews hlen
  go_enter Tryz.func52, Tryz.ntmps52
  go_wp2_with fail
  go_region_law_o (refine step_append_room rfl (.tmp 22) (.tmp 25) 22 rfl 45 i0 6 Tryz.underlying22 hi0 hz1 blk 0 i cap (by simp [Act.eval, Act.put]) A (n - (i + 1)) (cap - (i + 1)) news (by simp [Act.eval, Act.put]) s1.out hsrc.out s2.out (by omega) s3.out ?_; rw [← hW.out])
  go_wp2
  go_ret
  refine ⟨by rw [show i + (n - (i + 1)) = n - 1 by omega]; rfl, ?_⟩
  rw [hW.out, heq]

def zrow : List D := [.int .i64 0, .int .i64 0, .sl 5 [] .no, .sl 4 [] .no, .sl 2 [] .no, .sl 3 [] .no]
theorem zrow_R (M : Mem) : RAll M zrow zver := by
  simp only [zrow, zver, RAll, R, TokR]
  simp [lim_eq, inR, IntKind.min, IntKind.max]
  decide
/-- slices.Delete at versions: one element is left out. -/
theorem del_w (b n cap i : Nat) (rows : List (List D)) (hr : rows.length = n) (hi : i < n) (hm : n ≤ 9223372036854775807) :
    ACall Tryz.prog (.func 52) [.arr b 6 n cap, .int .i64 i, .int .i64 ((i : Int) + 1)] [(b, .arr 6 rows cap)] fun r σ' => r = .ret (.arr b 6 (n - 1) cap) ∧ σ' = [(b, .arr 6 (rows.eraseIdx i ++ [zrow]) cap)] := by
  intro M w vs hc hv
  obtain ⟨⟨us, T, hh, h2, h3, h4, h5⟩, hmn⟩ := hc.box b _ (List.mem_singleton.2 rfl)
  obtain ⟨v1, v2, v3, rfl, e1, e2, e3⟩ : ∃ v1 v2 v3, vs = [v1, v2, v3] ∧ R M (.arr b 6 n cap) v1 ∧ R M (.int .i64 i) v2 ∧ R M (.int .i64 ((i : Int) + 1)) v3 := by
    match vs, hv with
    | [v1, v2, v3], hv => simp only [RAll] at hv; exact ⟨v1, v2, v3, rfl, hv.1, hv.2.1, hv.2.2.1⟩
    | [], hv => simp [RAll] at hv
    | [_], hv => simp [RAll] at hv
    | [_, _], hv => simp [RAll] at hv
    | _ :: _ :: _ :: _ :: _, hv => simp [RAll] at hv
  simp only [R] at e1 e2 e3
  obtain rfl := e1
  obtain rfl := e2.1
  obtain rfl := e3.1
  rw [hr] at h3 h4
  have hlen : ∀ r ∈ rows, r.length = 6 := fun r hr => (h5 r hr).1
  have hone : ∀ u ∈ us.take (n * 6), u.oneCell' = true := RAll_cell h4 (by
    rw [List.all_eq_true]
    intro x hx
    obtain ⟨r, hr, hxr⟩ := List.mem_flatten.1 hx
    exact List.all_eq_true.1 (h5 r hr).2 x hxr)
  have hk := del_k b cap n i us T w hh h2 hone h3 hm hi
  refine .inl ⟨enters_of Tryz.func52 (by kernel_rfl) rfl _ _, callsIn_wide.2 (hk.mono ?_)⟩
  rintro e w' ⟨rfl, rfl⟩
  have hnl : ((us.take (n * 6)).drop ((i + 1) * 6)).length = (n - (i + 1)) * 6 := by rw [List.length_drop, List.length_take]; omega
  have hd : w.drew.heap[b]? = some (.cells us.toArray T (0, 0)) := hh
  obtain ⟨w1, g1⟩ := setCells_wr b ((us.take (n * 6)).drop ((i + 1) * 6)) (0 + i * 6) w.drew us T (0, 0) hd (by rw [hnl]; omega)
  generalize hus1 : us.take (0 + i * 6) ++ (us.take (n * 6)).drop ((i + 1) * 6) ++ us.drop (0 + i * 6 + ((us.take (n * 6)).drop ((i + 1) * 6)).length) = us1 at g1
  have hl1 : us1.length = cap * 6 := by rw [← hus1]; simp only [List.length_append, List.length_take, List.length_drop]; omega
  obtain ⟨w2, g2⟩ := setCells_wr b zver ((n - 1) * 6) _ us1 T (0, 0) g1 (by rw [hl1]; show (n - 1) * 6 + 6 ≤ cap * 6; omega)
  have hw := w1.trans w2
  have ht := hc.drew.turn (w' := (w.drew.setCells b (0 + i * 6) ((us.take (n * 6)).drop ((i + 1) * 6))).setCells b ((n - 1) * 6) zver) (b := b) (y := .arr 6 (rows.eraseIdx i ++ [zrow]) cap) (by simp [Store.keys]) hw.size hw.os hw.tape hw.output (fun k hk => hw.other k hk) (fun o v hv => by rw [hmn o] at hv; cases hv) ⟨⟨_, T, g2, ?_, ?_, ?_, ?_⟩, hmn⟩
  · have hu : Store.upd [(b, Box.arr 6 rows cap)] b (.arr 6 (rows.eraseIdx i ++ [zrow]) cap) = [(b, .arr 6 (rows.eraseIdx i ++ [zrow]) cap)] := by simp [Store.upd]
    rw [hu] at ht
    exact ⟨M, _, .ret (.arr b 6 (n - 1) cap), (Step.drew M w _).trans ht.2, ht.1, by simp only [ResR, R], rfl, rfl⟩
  · simp only [List.length_append, List.length_take, List.length_drop, hl1]; show min ((n - 1) * 6) (cap * 6) + 6 + (cap * 6 - ((n - 1) * 6 + 6)) = _; omega
  · simp only [List.length_append, List.length_eraseIdx, hr, hi, if_true, List.length_singleton]; omega
  · have e0 : us1.take ((n - 1) * 6) = us.take (i * 6) ++ (us.take (n * 6)).drop ((i + 1) * 6) := by
      rw [← hus1, Nat.zero_add, List.take_append_of_le_length (by simp only [List.length_append, List.length_take, hnl]; omega), List.take_of_length_le (by simp only [List.length_append, List.length_take, hnl]; omega)]
    have el : (rows.eraseIdx i ++ [zrow]).length * 6 = n * 6 := by
      simp only [List.length_append, List.length_eraseIdx, hr, hi, if_true, List.length_singleton]; omega
    have e1 : (us1.take ((n - 1) * 6) ++ zver ++ us1.drop ((n - 1) * 6 + zver.length)).take (n * 6) = us1.take ((n - 1) * 6) ++ zver := by
      have hz : (us1.take ((n - 1) * 6) ++ zver).length = n * 6 := by
        simp only [List.length_append, List.length_take, hl1]; show min ((n - 1) * 6) (cap * 6) + 6 = _; omega
      rw [List.take_append_of_le_length (by omega), List.take_of_length_le (by omega)]
    rw [el, e1, e0, List.eraseIdx_eq_take_drop_succ, List.flatten_append, List.flatten_append, flat_take hlen, flat_drop hlen]
    refine RAll.append (RAll.append ?_ (RAll.drop _ h4)) (by simpa using zrow_R M)
    have := RAll.take (i * 6) h4
    rwa [List.take_take, Nat.min_eq_left (by omega)] at this
  · intro r hr
    rcases List.mem_append.1 hr with hr | hr
    · exact h5 r (List.mem_of_mem_eraseIdx hr)
    · rw [List.mem_singleton.1 hr]; exact ⟨rfl, by decide⟩
end Go.Proofs.YtjjkgeeafjagkaaGreat
/- A slice is compared with nil, of the machine. -/
namespace Go.Proofs.YtjjkgeeafjagkaaGreat
open Go Go.RowKit
section
variable {P : Program} {σ : Store} {nt : Nat} {κ : Env → Store → Prop} {X : D → Store → Prop} {dst : Option Nat} {T T' : TypeId} {pos_ : String} {aft : Array Edge} {os : List Oper} {env : Env}
theorem vS_eqnil {x : Operand} {TT e : TypeId} {sz : Nat} {rows : List (List D)} {t : Tok} (hx : opd env x = .sl sz rows t) (hne : rows ≠ []) (hT : P.underlying TT = some (.slice e)) (h : vopsS P nt κ X os (env.put dst (.bool false)) σ) :
    vopsS P nt κ X (⟨dst, .binOp .eql TT x (.const (.slice none 0 0)) T', T, pos_, aft, none⟩ :: os) env σ := by
  intro M w a hc he
  have hr := opd_R he x
  rw [hx] at hr
  simp only [R] at hr
  obtain ⟨p, cap, hv, _, _, hq, _⟩ := hr
  obtain ⟨b, o, rfl, _⟩ := hq hne
  have hrun := Go.run_eql_slice_nil (P := P) w TT e (some ⟨b, o, none⟩) rows.length cap hT
  refine .value M w σ (.bool false) (.bool false) ?_ (Step.refl _ _ _) hc (by simp only [R]) h
  have hcst : a.eval (.const (.slice none 0 0)) = .slice none 0 0 := rfl
  have hg : (eqGuard .eql TT x (.const (.slice none 0 0)) (.slice (some ⟨b, o, none⟩) rows.length cap) (.slice none 0 0)).run P w = .ok () w := by unfold eqGuard; split <;> rfl
  simp [execOp, hv, hcst, hrun, hg]
end
end Go.Proofs.YtjjkgeeafjagkaaGreat
/- The walk of slices.Clone at versions. Printed by a tool of our own. -/
namespace Go.Proofs.YtjjkgeeafjagkaaGreat
open Go Go.RowKit
set_option linter.unusedSimpArgs false
set_option linter.unusedVariables false
set_option maxHeartbeats 4000000
set_option maxRecDepth 100000
attribute [local go_sem] List.length_map rowAt_n nrow rowAt_t trow rowAt_i irow
attribute [local go_sem] rowAt_e rowAt_tm rowAt_dc rowAt_ru tmrow dcrow rurow
attribute [local go_sem] rowAt_br rowAt_s rowAt_fo rowAt_ve rowAt_g rowAt_k grow krow srow brrow forow dorow verow
theorem clone_w (l : List Ve) (t : Tok) (hn : 0 < l.length ∧ l.length ≤ 1000) : RCall Tryz.prog (.func 51) [.sl 6 (l.map verow) t] [] (fun (y : Nat × Nat) => .arr y.1 6 l.length y.2) (fun (y : Nat × Nat) => [(y.1, .arr 6 (l.map verow) y.2)]) (fun (y : Nat × Nat) => l.length ≤ y.2) := by
  have hne : (l.map verow).isEmpty = false := by cases l with
    | nil => simp at hn
    | cons _ _ => rfl
  have hne2 : l.map verow ≠ [] := by intro e; rw [e] at hne; cases hne
  refine fn_ Tryz.func51 (by rfl) (by rfl) (rs := [.tmp 2]) (by rfl) (by simp [Tryz.f51]) ?_
  refine sq ?_
  refine rg [0] [] [] (by kernel_rfl) ?_; intro κ ξ hκ hξ
  try simp +decide only [go_sem, Nat.reduceMul, Nat.reduceAdd, Nat.reduceBEq, cond_false]
  repeat with_reducible refine And.intro (by first | assumption | omega | (simp; done) | (simp; omega) | (intro hg; simp +decide only [go_sem, hg]; done) | (intro hg; simp +decide only [go_sem, hg]; omega)) ?_
  refine hκ _ _ ?_; clear hκ hξ ξ κ
  refine sq ?_
  refine sq ?_
  refine rgS [0, 4] (by kernel_rfl) ?_; intro κ ξ hκ hξ
  refine vS_q trivial ?_
  refine vS_eqnil (sz := 6) (rows := l.map verow) (t := t) (by rfl) hne2 Tryz.underlying22 ?_
  refine vS_nil ?_
  refine hκ _ _ ?_; clear hκ hξ ξ κ
  refine weak (mk [(0, .sl 6 (l.map verow) t), (4, .bool false)]) (EnvLe.of_l ⟨rfl, rfl, trivial⟩) (.refl _) ?_
  refine cdf (by rfl) ?_
  refine sk ?_
  refine sq ?_
  refine rg [2] [7] [] (by kernel_rfl) ?_; intro κ ξ hκ hξ
  try simp +decide only [go_sem, Nat.reduceMul, Nat.reduceAdd, Nat.reduceBEq, cond_false]
  repeat with_reducible refine And.intro (by first | assumption | omega | (simp; done) | (simp; omega) | (intro hg; simp +decide only [go_sem, hg]; done) | (intro hg; simp +decide only [go_sem, hg]; omega)) ?_
  refine .inl (nappM_full rfl rfl (by simp +decide only [go_sem, Option.isSome_some]) tf86 tf87 tf179 (by (refine ⟨⟨rfl, by decide, by decide⟩, by rw [List.all_map]; exact List.all_eq_true.2 fun _ _ => rfl, hne2, ?_⟩; rw [List.length_map]; simp [capB]; omega)) ?_); intro b7 c7 hb7 hc7
  rw [List.length_map] at hc7
  try simp +decide only [go_sem, Nat.reduceMul, Nat.reduceAdd, Nat.reduceBEq, cond_false, hb7]
  repeat with_reducible refine And.intro (by first | assumption | omega | (simp; done) | (simp; omega) | (intro hg; simp +decide only [go_sem, hg]; done) | (intro hg; simp +decide only [go_sem, hg]; omega)) ?_
  refine hκ _ _ ?_; clear hκ hξ ξ κ
  refine rt ?_
  refine retR ((b7, c7)) ?_ ?_ ?_
  · first | exact .refl _ | exact List.nil_sublist _ | exact List.sublist_cons_of_sublist _ (.refl _) | exact ((List.Sublist.refl _).cons _).cons _ | (simp [*]; done) | skip
  · first | trivial | assumption | omega | (simp; done) | skip
  simp +decide only [go_sem, resD, resV, hb7]
  skip

end Go.Proofs.YtjjkgeeafjagkaaGreat
/- The walk of changed. Printed by a tool of our own. -/
namespace Go.Proofs.YtjjkgeeafjagkaaGreat
open Go Go.RowKit
set_option linter.unusedSimpArgs false
set_option linter.unusedVariables false
set_option maxHeartbeats 4000000
set_option maxRecDepth 100000
attribute [local go_sem] List.length_map rowAt_n nrow rowAt_t trow rowAt_i irow
attribute [local go_sem] rowAt_e rowAt_tm rowAt_dc rowAt_ru tmrow dcrow rurow
attribute [local go_sem] rowAt_br rowAt_s rowAt_fo rowAt_ve rowAt_g rowAt_k grow krow srow brrow forow dorow verow
theorem chg_w (l : List Ve) (t : Tok) (i : Nat) (bb : Int) (hi : i < l.length) (hn : l.length ≤ 1000) (hb : -1 ≤ bb ∧ bb ≤ 1) (hh : 0 ≤ (veat l i).holds ∧ (veat l i).holds ≤ 1000) : PCall Tryz.prog (.func 30) [.sl 6 (l.map verow) t, .int .i64 i, .int .i64 bb] (.sl 6 ((chg l i bb).map verow) .no) := by
  refine PCall.ok fun hok => ?_
  simp only [okAll, D.ok, okRows, and_true, true_and, lim_eq, inR_i64', inR_i32', inR_u8', inR_u16', inR_u64'] at hok
  obtain ⟨⟨hl, hr⟩, hx⟩ := hok; rw [List.length_map] at hl
  have hil : (i : Int) < l.length := by omega
  have hdr := ve_drop hi
  have hm1 : (i * 6 + 1) % 6 = 1 := by omega
  have hd1 : (i * 6 + 1) / 6 = i := by omega
  have hw : IntKind.wrap .i64 ((veat l i).holds + bb) = (held (veat l i) bb).holds := by rw [w64 (by omega)]; rfl
  have hset := ve_set (held (veat l i) bb) hi rfl rfl
  refine PCall.le ?_
  refine fn_ Tryz.func30 (by rfl) (by rfl) (rs := [.tmp 6]) (by rfl) (by simp [Tryz.f30]) ?_
  refine sq ?_
  refine rg [0, 1, 2] [] [] (by kernel_rfl) ?_; intro κ ξ hκ hξ
  try simp +decide only [go_sem, Nat.reduceMul, Nat.reduceAdd, Nat.reduceBEq, cond_false, hil, hdr, hm1, hd1, hw, hset]
  repeat with_reducible refine And.intro (by first | assumption | omega | (simp; done) | (simp; omega) | (intro hg; simp +decide only [go_sem, hg]; done) | (intro hg; simp +decide only [go_sem, hg]; omega)) ?_
  refine hκ _ _ ?_; clear hκ hξ ξ κ
  refine sq ?_
  refine rg [0, 1, 2, 7] [] [] (by kernel_rfl) ?_; intro κ ξ hκ hξ
  try simp +decide only [go_sem, Nat.reduceMul, Nat.reduceAdd, Nat.reduceBEq, cond_false, hil, hdr, hm1, hd1, hw, hset]
  repeat with_reducible refine And.intro (by first | assumption | omega | (simp; done) | (simp; omega) | (intro hg; simp +decide only [go_sem, hg]; done) | (intro hg; simp +decide only [go_sem, hg]; omega)) ?_
  refine callR (clone_w l _ ⟨by omega, hn⟩) fun ⟨b, c⟩ hc => ?_
  try simp +decide only [go_sem, Nat.reduceMul, Nat.reduceAdd, Nat.reduceBEq, cond_false, hil, hdr, hm1, hd1, hw, hset]
  repeat with_reducible refine And.intro (by first | assumption | omega | (simp; done) | (simp; omega) | (intro hg; simp +decide only [go_sem, hg]; done) | (intro hg; simp +decide only [go_sem, hg]; omega)) ?_
  refine hκ _ _ ?_; clear hκ hξ ξ κ
  refine sq ?_
  refine rg [0, 1, 7] [] [] (by kernel_rfl) ?_; intro κ ξ hκ hξ
  try simp +decide only [go_sem, Nat.reduceMul, Nat.reduceAdd, Nat.reduceBEq, cond_false, hil, hdr, hm1, hd1, hw, hset]
  repeat with_reducible refine And.intro (by first | assumption | omega | (simp; done) | (simp; omega) | (intro hg; simp +decide only [go_sem, hg]; done) | (intro hg; simp +decide only [go_sem, hg]; omega)) ?_
  refine hκ _ _ ?_; clear hκ hξ ξ κ
  obtain ⟨l2, hl2⟩ : ∃ l2, l2 = l.set i (held (veat l i) bb) := ⟨_, rfl⟩
  rw [← hl2]
  have hl2n : l2.length = l.length := by rw [hl2, List.length_set]
  have hv2 : veat l2 i = held (veat l i) bb := by rw [hl2, veat_set _ hi]
  have hdr2 := ve_drop (l := l2) (i := i) (by omega)
  rw [hv2] at hdr2
  have hlw : IntKind.wrap .i64 ((l.length : Int) - 1) = (l.length : Int) - 1 := w64 (by omega)
  have hi1 : IntKind.wrap .i64 ((i : Int) + 1) = (i : Int) + 1 := w64 (by omega)
  refine sq ?_
  refine sq ?_
  refine rg [1, 7, 31] [] [(6, 25)] (by kernel_rfl) ?_; intro κ ξ hκ hξ
  try simp +decide only [go_sem, Nat.reduceMul, Nat.reduceAdd, Nat.reduceBEq, cond_false, hil, hdr, hm1, hd1, hw, hset, hdr2, hl2n, hlw, hi1]
  repeat with_reducible refine And.intro (by first | assumption | omega | (simp; done) | (simp; omega) | (intro hg; simp +decide only [go_sem, hg]; done) | (intro hg; simp +decide only [go_sem, hg]; omega)) ?_
  refine hκ _ _ ?_; clear hκ hξ ξ κ
  refine cd (by rfl) (fun c0 => ?_) (fun c0 => ?_)
  · try simp only [go_sem] at c0
    refine rg [7] [] [] (by kernel_rfl) ?_; intro κ ξ hκ hξ
    try simp +decide only [go_sem, Nat.reduceMul, Nat.reduceAdd, Nat.reduceBEq, cond_false, hil, hdr, hm1, hd1, hw, hset, hdr2, hl2n, hlw, hi1, c0]
    repeat with_reducible refine And.intro (by first | assumption | omega | (simp; done) | (simp; omega) | (intro hg; simp +decide only [go_sem, hg]; done) | (intro hg; simp +decide only [go_sem, hg]; omega)) ?_
    refine callA (del_w b l.length c i (l2.map verow) (by rw [List.length_map, hl2n]) hi (by omega)) (fun d σ' hq => ?_) (fun d σ' hq => by cases hq.1)
    obtain ⟨hq1, rfl⟩ := hq
    cases hq1
    try simp +decide only [go_sem, Nat.reduceMul, Nat.reduceAdd, Nat.reduceBEq, cond_false, hil, hdr, hm1, hd1, hw, hset, hdr2, hl2n, hlw, hi1, c0]
    repeat with_reducible refine And.intro (by first | assumption | omega | (simp; done) | (simp; omega) | (intro hg; simp +decide only [go_sem, hg]; done) | (intro hg; simp +decide only [go_sem, hg]; omega)) ?_
    refine hκ _ _ ?_; clear hκ hξ ξ κ
    refine sq ?_
    refine rg [6] [] [] (by kernel_rfl) ?_; intro κ ξ hκ hξ
    try simp +decide only [go_sem, Nat.reduceMul, Nat.reduceAdd, Nat.reduceBEq, cond_false, hil, hdr, hm1, hd1, hw, hset, hdr2, hl2n, hlw, hi1, c0]
    repeat with_reducible refine And.intro (by first | assumption | omega | (simp; done) | (simp; omega) | (intro hg; simp +decide only [go_sem, hg]; done) | (intro hg; simp +decide only [go_sem, hg]; omega)) ?_
    refine hκ _ _ ?_; clear hκ hξ ξ κ
    refine fz1t (rows := (l2.map verow).eraseIdx i ++ [zrow]) (by simp [Store.get]) ⟨by rw [List.length_append, List.length_eraseIdx, List.length_map, hl2n, if_pos hi]; omega, by simp only at hc; omega, by unfold lim; omega⟩ ?_
    refine rt ?_
    refine retE ?_
    simp +decide only [go_sem, resD, resV, hil, hdr, hm1, hd1, hw, hset, hdr2, hl2n, hlw, hi1, c0]
    have e : chg l i bb = l.eraseIdx i := by
      unfold chg
      exact if_pos ⟨c0.1, by omega⟩
    rw [e, hl2, er_set _ _ hi]
  · try simp only [go_sem] at c0
    refine sk ?_
    refine sq ?_
    refine rg [6] [] [] (by kernel_rfl) ?_; intro κ ξ hκ hξ
    try simp +decide only [go_sem, Nat.reduceMul, Nat.reduceAdd, Nat.reduceBEq, cond_false, hil, hdr, hm1, hd1, hw, hset, hdr2, hl2n, hlw, hi1, c0]
    repeat with_reducible refine And.intro (by first | assumption | omega | (simp; done) | (simp; omega) | (intro hg; simp +decide only [go_sem, hg]; done) | (intro hg; simp +decide only [go_sem, hg]; omega)) ?_
    refine hκ _ _ ?_; clear hκ hξ ξ κ
    refine fz1t (rows := l2.map verow) (by simp [Store.get]) ⟨by rw [List.length_map]; omega, hc, by unfold lim; omega⟩ ?_
    refine rt ?_
    refine retE ?_
    simp +decide only [go_sem, resD, resV, hil, hdr, hm1, hd1, hw, hset, hdr2, hl2n, hlw, hi1, c0]
    have e : chg l i bb = l2 := by
      unfold chg
      rw [hl2]
      refine if_neg ?_
      rintro ⟨h1, h2⟩
      rcases c0 with c0 | c0
      · exact c0 h1
      · omega
    rw [e, List.take_of_length_le (by first | omega | (rw [List.length_map]; omega))]

end Go.Proofs.YtjjkgeeafjagkaaGreat

/- The law of runs. Printed by a tool of our own. -/
import Derived.Test.YtjjkgeeafjagkaaGreatJLt
import Derived.Test.YtjjkgeeafjagkaaGreatJDj
import Derived.Test.YtjjkgeeafjagkaaGreatJKe
import Derived.Test.YtjjkgeeafjagkaaGreatJKf
import Derived.Test.YtjjkgeeafjagkaaGreatWj
namespace Go.Proofs.YtjjkgeeafjagkaaGreat
open Go Go.RowKit
set_option linter.unusedSimpArgs false
set_option linter.unusedVariables false
set_option maxHeartbeats 4000000
set_option maxRecDepth 100000
def seenO (pos : List Nat) : Option Nat → List Nat
  | none => pos
  | some i => pos ++ [i]
theorem wrap_succ (n : Int) : IntKind.wrap .i64 (IntKind.wrap .i64 n + 1) = IntKind.wrap .i64 (n + 1) := by
  unfold IntKind.wrap
  simp [IntKind.signed, IntKind.bits]
  repeat' split
  all_goals omega
attribute [local go_sem] List.length_map rowAt_n nrow rowAt_t trow rowAt_i irow
attribute [local go_sem] rowAt_e rowAt_tm rowAt_dc rowAt_ru tmrow dcrow rurow
attribute [local go_sem] rowAt_br rowAt_s rowAt_fo rowAt_ve rowAt_g rowAt_k grow krow srow brrow forow dorow verow
attribute [local go_sem] crow rowAt_ca mE_get mE_look mE_lookK mE_put
theorem law6_w (l : List Ve) (t : Tok) (cs : List (Int × Int)) (u : Tok) : PCall Tryz.prog (.func 6) [.sl 6 (l.map verow) t, .sl 2 (cs.map crow) u] (.bool true) := by
  refine PCall.ok fun hok => ?_
  simp only [okAll, D.ok, okRows, and_true, true_and, lim_eq, inR_i64', inR_i32', inR_u8', inR_u16', inR_u64'] at hok
  obtain ⟨⟨hl, hr⟩, hcl, hcr⟩ := hok; rw [List.length_map] at hl hcl
  refine PCall.le ?_
  refine fn_ Tryz.func6 (by rfl) (by rfl) (rs := [.tmp 4]) (by rfl) (by simp [Tryz.f6]) ?_
  refine sq ?_
  refine rg [0, 1] [] [] (by kernel_rfl) ?_; intro κ ξ hκ hξ
  try simp +decide only [go_sem, Nat.reduceMul, Nat.reduceAdd, Nat.reduceBEq, cond_false, beq_self_eq_true, decide_true]
  repeat with_reducible refine And.intro (by first | assumption | omega | (simp; done) | (simp; omega) | (intro hg; simp +decide only [go_sem, hg]; done) | (intro hg; simp +decide only [go_sem, hg]; omega)) ?_
  refine hκ _ _ ?_; clear hκ hξ ξ κ
  refine sq ?_
  refine rg [0, 1, 5] [] [] (by kernel_rfl) ?_; intro κ ξ hκ hξ
  try simp +decide only [go_sem, Nat.reduceMul, Nat.reduceAdd, Nat.reduceBEq, cond_false, beq_self_eq_true, decide_true]
  repeat with_reducible refine And.intro (by first | assumption | omega | (simp; done) | (simp; omega) | (intro hg; simp +decide only [go_sem, hg]; done) | (intro hg; simp +decide only [go_sem, hg]; omega)) ?_
  refine callF (head_w) ?_
  try simp +decide only [go_sem, Nat.reduceMul, Nat.reduceAdd, Nat.reduceBEq, cond_false, beq_self_eq_true, decide_true]
  repeat with_reducible refine And.intro (by first | assumption | omega | (simp; done) | (simp; omega) | (intro hg; simp +decide only [go_sem, hg]; done) | (intro hg; simp +decide only [go_sem, hg]; omega)) ?_
  refine hκ _ _ ?_; clear hκ hξ ξ κ
  refine sq ?_
  refine sq ?_
  refine rg [0, 1, 5, 31] [] [(3, 27)] (by kernel_rfl) ?_; intro κ ξ hκ hξ
  try simp +decide only [go_sem, Nat.reduceMul, Nat.reduceAdd, Nat.reduceBEq, cond_false, beq_self_eq_true, decide_true]
  repeat with_reducible refine And.intro (by first | assumption | omega | (simp; done) | (simp; omega) | (intro hg; simp +decide only [go_sem, hg]; done) | (intro hg; simp +decide only [go_sem, hg]; omega)) ?_
  refine callF (usab_w _ _) ?_
  try simp +decide only [go_sem, Nat.reduceMul, Nat.reduceAdd, Nat.reduceBEq, cond_false, beq_self_eq_true, decide_true]
  repeat with_reducible refine And.intro (by first | assumption | omega | (simp; done) | (simp; omega) | (intro hg; simp +decide only [go_sem, hg]; done) | (intro hg; simp +decide only [go_sem, hg]; omega)) ?_
  refine hκ _ _ ?_; clear hκ hξ ξ κ
  refine cd (by rfl) (fun c0 => ?_) (fun c0 => ?_)
  · simp only [go_sem] at c0
    refine sq ?_
    refine rg [4] [] [] (by kernel_rfl) ?_; intro κ ξ hκ hξ
    try simp +decide only [go_sem, Nat.reduceMul, Nat.reduceAdd, Nat.reduceBEq, cond_false, beq_self_eq_true, decide_true, c0]
    repeat with_reducible refine And.intro (by first | assumption | omega | (simp; done) | (simp; omega) | (intro hg; simp +decide only [go_sem, hg]; done) | (intro hg; simp +decide only [go_sem, hg]; omega)) ?_
    refine hκ _ _ ?_; clear hκ hξ ξ κ
    refine rt ?_
    refine retE ?_
    simp +decide only [go_sem, resD, resV, beq_self_eq_true, decide_true, c0]
    
  · simp only [go_sem] at c0
    have hv := c0.1.2
    have hl5 := (ver_true.1 hv).1
    have hcs : cs.length ≤ 30 := by omega
    refine sk ?_
    refine sq ?_
    refine rg [0, 1, 5, 6] [] [] (by kernel_rfl) ?_; intro κ ξ hκ hξ
    try simp +decide only [go_sem, Nat.reduceMul, Nat.reduceAdd, Nat.reduceBEq, cond_false, beq_self_eq_true, decide_true, c0]
    repeat with_reducible refine And.intro (by first | assumption | omega | (simp; done) | (simp; omega) | (intro hg; simp +decide only [go_sem, hg]; done) | (intro hg; simp +decide only [go_sem, hg]; omega)) ?_
    intro b33 hb33
    try simp +decide only [go_sem, Nat.reduceMul, Nat.reduceAdd, Nat.reduceBEq, cond_false, beq_self_eq_true, decide_true, c0, hb33]
    repeat with_reducible refine And.intro (by first | assumption | omega | (simp; done) | (simp; omega) | (intro hg; simp +decide only [go_sem, hg]; done) | (intro hg; simp +decide only [go_sem, hg]; omega)) ?_
    refine hκ _ _ ?_; clear hκ hξ ξ κ
    refine sq ?_
    refine rg [0, 1, 5, 6, 7] [] [] (by kernel_rfl) ?_; intro κ ξ hκ hξ
    try simp +decide only [go_sem, Nat.reduceMul, Nat.reduceAdd, Nat.reduceBEq, cond_false, beq_self_eq_true, decide_true, c0, hb33]
    repeat with_reducible refine And.intro (by first | assumption | omega | (simp; done) | (simp; omega) | (intro hg; simp +decide only [go_sem, hg]; done) | (intro hg; simp +decide only [go_sem, hg]; omega)) ?_
    refine hκ _ _ ?_; clear hκ hξ ξ κ
    refine sq ?_
    refine sq ?_
    refine rg [0, 1, 5, 6, 7, 34, 35, 36] [] [] (by kernel_rfl) ?_; intro κ ξ hκ hξ
    try simp +decide only [go_sem, Nat.reduceMul, Nat.reduceAdd, Nat.reduceBEq, cond_false, beq_self_eq_true, decide_true, c0, hb33]
    repeat with_reducible refine And.intro (by first | assumption | omega | (simp; done) | (simp; omega) | (intro hg; simp +decide only [go_sem, hg]; done) | (intro hg; simp +decide only [go_sem, hg]; omega)) ?_
    refine hκ _ _ ?_; clear hκ hξ ξ κ
    refine bl ?_
    refine lp (α := Nat) (fun i => mk [(0, .sl 6 (l.map verow) t), (1, .sl 2 (cs.map crow) u), (5, .bool true), (6, .mp b33), (7, .int .i64 (nwI l i)), (34, .sl 6 (l.map verow) t), (35, .int .i64 l.length), (36, .int .i64 i)]) (fun i => [(b33, .map (mE (esI l i)))]) (fun i => i ≤ l.length) (fun i => l.length - i) 0 ⟨by omega, EnvLe.of_eq rfl, .refl _⟩ ?_
    rintro i hi
    refine sq ?_
    refine rg [0, 1, 5, 6, 7, 34, 35, 36, 37] [] [] (by kernel_rfl) ?_; intro κ ξ hκ hξ
    try simp +decide only [go_sem, Nat.reduceMul, Nat.reduceAdd, Nat.reduceBEq, cond_false, beq_self_eq_true, decide_true, c0, hb33]
    repeat with_reducible refine And.intro (by first | assumption | omega | (simp; done) | (simp; omega) | (intro hg; simp +decide only [go_sem, hg]; done) | (intro hg; simp +decide only [go_sem, hg]; omega)) ?_
    refine hκ _ _ ?_; clear hκ hξ ξ κ
    refine sq ?_
    refine cd (by rfl) (fun c1 => ?_) (fun c1 => ?_)
    · simp only [go_sem] at c1
      refine sk ?_
      refine sq ?_
      refine bl ?_
      refine sq ?_
      refine rgz [(9, [])] [0, 1, 5, 6, 9, 34, 35, 36] [] [] (by kernel_rfl) ?_; intro κ ξ hκ hξ
      try simp +decide only [go_sem, Nat.reduceMul, Nat.reduceAdd, Nat.reduceBEq, cond_false, beq_self_eq_true, decide_true, c0, hb33, c1]
      repeat with_reducible refine And.intro (by first | assumption | omega | (simp; done) | (simp; omega) | (intro hg; simp +decide only [go_sem, hg]; done) | (intro hg; simp +decide only [go_sem, hg]; omega)) ?_
      intro b9 hb9
      try simp +decide only [go_sem, Nat.reduceMul, Nat.reduceAdd, Nat.reduceBEq, cond_false, beq_self_eq_true, decide_true, c0, hb33, c1, hb9]
      repeat with_reducible refine And.intro (by first | assumption | omega | (simp; done) | (simp; omega) | (intro hg; simp +decide only [go_sem, hg]; done) | (intro hg; simp +decide only [go_sem, hg]; omega)) ?_
      refine hκ _ _ ?_; clear hκ hξ ξ κ
      refine rgt2 [0, 1, 5, 6, 7, 34, 35, 36] [] [] [] [0, 1, 2, 3, 4, 5] (.br 6 [7, 8] .fin 7 [6, 8] .fin) (by kernel_rfl) (by kernel_rfl) (Pk.cons rfl (Pk.cons rfl (Pk.cons rfl (Pk.cons rfl (Pk.cons rfl (Pk.cons rfl (Pk.nil))))))) ?_; intro κ ξ hκ hξ
      try simp +decide only [go_sem, Nat.reduceMul, Nat.reduceAdd, Nat.reduceBEq, cond_false, beq_self_eq_true, decide_true, c0, hb33, c1, hb9]
      repeat with_reducible refine And.intro (by first | assumption | omega | (simp; done) | (simp; omega) | (intro hg; simp +decide only [go_sem, hg]; done) | (intro hg; simp +decide only [go_sem, hg]; omega)) ?_
      refine SET_br (Pk.cons rfl (Pk.cons rfl (Pk.cons rfl (Pk.nil)))) (Pk.cons rfl (Pk.cons rfl (Pk.cons rfl (Pk.nil)))) ?_ ?_
      · try simp +decide only [go_sem, Nat.reduceMul, Nat.reduceAdd, Nat.reduceBEq, cond_false, beq_self_eq_true, decide_true, c0, hb33, c1, hb9]
        repeat with_reducible refine And.intro (by first | assumption | omega | (simp; done) | (simp; omega) | (intro hg; simp +decide only [go_sem, hg]; done) | (intro hg; simp +decide only [go_sem, hg]; omega)) ?_
        refine SET_fin ?_
        refine hκ _ _ ?_; clear hκ hξ ξ κ
        refine weak (mk [(0, .sl 6 (l.map verow) t), (1, .sl 2 (cs.map crow) u), (5, .bool true), (6, .mp b33), (7, .int .i64 (veat l i).num), (34, .sl 6 (l.map verow) t), (35, .int .i64 l.length), (36, .int .i64 i)]) (EnvLe.of_l ⟨rfl, rfl, rfl, rfl, rfl, rfl, rfl, rfl, trivial⟩) (σ' := [(b33, .map (mE (esI l (i + 1))))]) (.refl _) ?_
        refine rg [0, 1, 5, 6, 7, 34, 35, 36] [] [] (by kernel_rfl) ?_; intro κ ξ hκ hξ
        try simp +decide only [go_sem, Nat.reduceMul, Nat.reduceAdd, Nat.reduceBEq, cond_false, beq_self_eq_true, decide_true, c0, hb33, c1, hb9]
        repeat with_reducible refine And.intro (by first | assumption | omega | (simp; done) | (simp; omega) | (intro hg; simp +decide only [go_sem, hg]; done) | (intro hg; simp +decide only [go_sem, hg]; omega)) ?_
        refine hκ _ _ ?_; clear hκ hξ ξ κ
        refine ⟨i + 1, ⟨by omega, by omega⟩, EnvLe.of_eq ?_, .refl _⟩
        rw [w64 (n := (i : Int) + 1) (by omega)]
        rfl
      · try simp +decide only [go_sem, Nat.reduceMul, Nat.reduceAdd, Nat.reduceBEq, cond_false, beq_self_eq_true, decide_true, c0, hb33, c1, hb9]
        repeat with_reducible refine And.intro (by first | assumption | omega | (simp; done) | (simp; omega) | (intro hg; simp +decide only [go_sem, hg]; done) | (intro hg; simp +decide only [go_sem, hg]; omega)) ?_
        refine SET_fin ?_
        refine hκ _ _ ?_; clear hκ hξ ξ κ
        refine weak (mk [(0, .sl 6 (l.map verow) t), (1, .sl 2 (cs.map crow) u), (5, .bool true), (6, .mp b33), (7, .int .i64 (veat l i).num), (34, .sl 6 (l.map verow) t), (35, .int .i64 l.length), (36, .int .i64 i)]) (EnvLe.of_l ⟨rfl, rfl, rfl, rfl, rfl, rfl, rfl, rfl, trivial⟩) (σ' := [(b33, .map (mE (esI l (i + 1))))]) (.refl _) ?_
        refine rg [0, 1, 5, 6, 7, 34, 35, 36] [] [] (by kernel_rfl) ?_; intro κ ξ hκ hξ
        try simp +decide only [go_sem, Nat.reduceMul, Nat.reduceAdd, Nat.reduceBEq, cond_false, beq_self_eq_true, decide_true, c0, hb33, c1, hb9]
        repeat with_reducible refine And.intro (by first | assumption | omega | (simp; done) | (simp; omega) | (intro hg; simp +decide only [go_sem, hg]; done) | (intro hg; simp +decide only [go_sem, hg]; omega)) ?_
        refine hκ _ _ ?_; clear hκ hξ ξ κ
        refine ⟨i + 1, ⟨by omega, by omega⟩, EnvLe.of_eq ?_, .refl _⟩
        rw [w64 (n := (i : Int) + 1) (by omega)]
        rfl
    · simp only [go_sem] at c1
      obtain rfl : i = l.length := by omega
      refine ex ?_
      refine sq ?_
      refine sq ?_
      refine rg [0, 5, 6, 7, 48, 49, 50] [] [] (by kernel_rfl) ?_; intro κ ξ hκ hξ
      try simp +decide only [go_sem, Nat.reduceMul, Nat.reduceAdd, Nat.reduceBEq, cond_false, beq_self_eq_true, decide_true, c0, hb33, c1]
      repeat with_reducible refine And.intro (by first | assumption | omega | (simp; done) | (simp; omega) | (intro hg; simp +decide only [go_sem, hg]; done) | (intro hg; simp +decide only [go_sem, hg]; omega)) ?_
      refine hκ _ _ ?_; clear hκ hξ ξ κ
      refine bl ?_
      refine lp (α := List Ve × List (Int × Int) × Nat) (fun y => mk [(0, .sl 6 (y.1.map verow) .no), (5, .bool true), (6, .mp b33), (7, .int .i64 (newL y.1)), (48, .sl 2 (cs.map crow) u), (49, .int .i64 cs.length), (50, .int .i64 y.2.2)]) (fun y => [(b33, .map (mE y.2.1))]) (fun y => y.2.2 ≤ cs.length ∧ RunI y.1 y.2.1 y.2.2) (fun y => cs.length - y.2.2) (l, esI l l.length, 0) ⟨⟨by simp only; omega, run_start hv⟩, EnvLe.cons (DLe.tok _ _ _) (EnvLe.refl _), .refl _⟩ ?_
      rintro ⟨m, es, j⟩ ⟨hj, hrun⟩
      simp only at hj hrun
      have hvm := hrun.ver
      have hca := caat_ok hcr j
      refine sq ?_
      refine rg [0, 5, 6, 7, 48, 49, 50, 51] [] [] (by kernel_rfl) ?_; intro κ ξ hκ hξ
      try simp +decide only [go_sem, Nat.reduceMul, Nat.reduceAdd, Nat.reduceBEq, cond_false, beq_self_eq_true, decide_true, c0, hb33, c1]
      repeat with_reducible refine And.intro (by first | assumption | omega | (simp; done) | (simp; omega) | (intro hg; simp +decide only [go_sem, hg]; done) | (intro hg; simp +decide only [go_sem, hg]; omega)) ?_
      refine hκ _ _ ?_; clear hκ hξ ξ κ
      refine sq ?_
      refine cd (by rfl) (fun c2 => ?_) (fun c2 => ?_)
      · try simp only [go_sem] at c2
        refine sk ?_
        refine sq ?_
        refine bl ?_
        refine sq ?_
        refine rgz [(11, [])] [0, 5, 6, 7, 11, 48, 49, 50] [] [] (by kernel_rfl) ?_; intro κ ξ hκ hξ
        try simp +decide only [go_sem, Nat.reduceMul, Nat.reduceAdd, Nat.reduceBEq, cond_false, beq_self_eq_true, decide_true, c0, hb33, c1, c2]
        repeat with_reducible refine And.intro (by first | assumption | omega | (simp; done) | (simp; omega) | (intro hg; simp +decide only [go_sem, hg]; done) | (intro hg; simp +decide only [go_sem, hg]; omega)) ?_
        intro b11 hb11
        try simp +decide only [go_sem, Nat.reduceMul, Nat.reduceAdd, Nat.reduceBEq, cond_false, beq_self_eq_true, decide_true, c0, hb33, c1, c2, hb11]
        repeat with_reducible refine And.intro (by first | assumption | omega | (simp; done) | (simp; omega) | (intro hg; simp +decide only [go_sem, hg]; done) | (intro hg; simp +decide only [go_sem, hg]; omega)) ?_
        refine hκ _ _ ?_; clear hκ hξ ξ κ
        refine sq ?_
        refine rg [5, 6, 7, 12, 13, 14, 48, 49, 50] [] [] (by kernel_rfl) ?_; intro κ ξ hκ hξ
        try simp +decide only [go_sem, Nat.reduceMul, Nat.reduceAdd, Nat.reduceBEq, cond_false, beq_self_eq_true, decide_true, c0, hb33, c1, c2, hb11]
        repeat with_reducible refine And.intro (by first | assumption | omega | (simp; done) | (simp; omega) | (intro hg; simp +decide only [go_sem, hg]; done) | (intro hg; simp +decide only [go_sem, hg]; omega)) ?_
        refine callF (play_w _ _ _ _) ?_
        try simp +decide only [go_sem, Nat.reduceMul, Nat.reduceAdd, Nat.reduceBEq, cond_false, beq_self_eq_true, decide_true, c0, hb33, c1, c2, hb11]
        repeat with_reducible refine And.intro (by first | assumption | omega | (simp; done) | (simp; omega) | (intro hg; simp +decide only [go_sem, hg]; done) | (intro hg; simp +decide only [go_sem, hg]; omega)) ?_
        refine hκ _ _ ?_; clear hκ hξ ξ κ
        have hpl := play_plays hvm hca.1 hca.2
        obtain ⟨p, hp⟩ : ∃ p, p = playR m (caat cs j).1 (caat cs j).2 := ⟨_, rfl⟩
        rw [← hp] at hpl ⊢
        have hrun2 := run_step hrun hpl
        have hb1 := run_bound hrun (n := p.2.1) hpl.some.2.1
        have hb2 := run_bound hrun (n := p.2.2) hpl.some.2.2
        have hw1 : IntKind.wrap .i64 (mz es p.2.1 + 1) = mz es p.2.1 + 1 := w64 (by omega)
        obtain ⟨es1, he1⟩ : ∃ es1, es1 = mzp es p.2.1 (mz es p.2.1 + 1) := ⟨_, rfl⟩
        rw [← he1] at hrun2
        have hb3 : -100 ≤ mz es1 p.2.2 ∧ mz es1 p.2.2 ≤ 2000 := by
          rw [he1, mz_put]
          split <;> omega
        have hw2 : IntKind.wrap .i64 (mz es1 p.2.2 - 1) = mz es1 p.2.2 - 1 := w64 (by omega)
        obtain ⟨es2, he2⟩ : ∃ es2, es2 = mzp es1 p.2.2 (mz es1 p.2.2 - 1) := ⟨_, rfl⟩
        rw [← he2] at hrun2
        have hpv := (ver_true.1 hpl.ver).1
        refine sq ?_
        refine rg [0, 5, 6, 7, 13, 14, 48, 49, 50] [] [] (by kernel_rfl) ?_; intro κ ξ hκ hξ
        try simp +decide only [go_sem, Nat.reduceMul, Nat.reduceAdd, Nat.reduceBEq, cond_false, beq_self_eq_true, decide_true, c0, hb33, c1, c2, hb11, hw1, ← he1, hw2, ← he2]
        repeat with_reducible refine And.intro (by first | assumption | omega | (simp; done) | (simp; omega) | (intro hg; simp +decide only [go_sem, hg]; done) | (intro hg; simp +decide only [go_sem, hg]; omega)) ?_
        refine hκ _ _ ?_; clear hκ hξ ξ κ
        refine sq ?_
        refine sq ?_
        refine rg [0, 5, 6, 7, 13, 14, 48, 49, 50, 64] [] [] (by kernel_rfl) ?_; intro κ ξ hκ hξ
        try simp +decide only [go_sem, Nat.reduceMul, Nat.reduceAdd, Nat.reduceBEq, cond_false, beq_self_eq_true, decide_true, c0, hb33, c1, c2, hb11, hw1, ← he1, hw2, ← he2]
        repeat with_reducible refine And.intro (by first | assumption | omega | (simp; done) | (simp; omega) | (intro hg; simp +decide only [go_sem, hg]; done) | (intro hg; simp +decide only [go_sem, hg]; omega)) ?_
        refine hκ _ _ ?_; clear hκ hξ ξ κ
        refine cd (by rfl) (fun c3 => ?_) (fun c3 => ?_)
        · simp only [go_sem] at c3
          obtain ⟨k, hkk⟩ : ∃ k : Nat, (p.1.length : Int) - 1 = (k : Int) := ⟨p.1.length - 1, by omega⟩
          have hkw : IntKind.wrap .i64 (k : Int) = k := w64 (by omega)
          have hkl : (k : Int) < p.1.length := by omega
          have hnx : mxI (newL m) (veat p.1 k).num = newL p.1 := by
            have := new_step hvm hpl (by omega)
            rwa [show p.1.length - 1 = k from by omega] at this
          refine rg [0, 5, 6, 7, 13, 14, 48, 49, 50] [] [] (by kernel_rfl) ?_; intro κ ξ hκ hξ
          try simp +decide only [go_sem, Nat.reduceMul, Nat.reduceAdd, Nat.reduceBEq, cond_false, beq_self_eq_true, decide_true, c0, hb33, c1, c2, hb11, hw1, ← he1, hw2, ← he2, c3, hkk, hkw, hkl, hnx]
          repeat with_reducible refine And.intro (by first | assumption | omega | (simp; done) | (simp; omega) | (intro hg; simp +decide only [go_sem, hg]; done) | (intro hg; simp +decide only [go_sem, hg]; omega)) ?_
          refine hκ _ _ ?_; clear hκ hξ ξ κ
          refine sq ?_
          refine rg [0, 5, 6, 7, 14, 48, 49, 50] [] [] (by kernel_rfl) ?_; intro κ ξ hκ hξ
          try simp +decide only [go_sem, Nat.reduceMul, Nat.reduceAdd, Nat.reduceBEq, cond_false, beq_self_eq_true, decide_true, c0, hb33, c1, c2, hb11, hw1, ← he1, hw2, ← he2, c3, hkk, hkw, hkl, hnx]
          repeat with_reducible refine And.intro (by first | assumption | omega | (simp; done) | (simp; omega) | (intro hg; simp +decide only [go_sem, hg]; done) | (intro hg; simp +decide only [go_sem, hg]; omega)) ?_
          refine hκ _ _ ?_; clear hκ hξ ξ κ
          refine rg [0, 5, 6, 7, 48, 49, 50] [] [] (by kernel_rfl) ?_; intro κ ξ hκ hξ
          try simp +decide only [go_sem, Nat.reduceMul, Nat.reduceAdd, Nat.reduceBEq, cond_false, beq_self_eq_true, decide_true, c0, hb33, c1, c2, hb11, hw1, ← he1, hw2, ← he2, c3, hkk, hkw, hkl, hnx]
          repeat with_reducible refine And.intro (by first | assumption | omega | (simp; done) | (simp; omega) | (intro hg; simp +decide only [go_sem, hg]; done) | (intro hg; simp +decide only [go_sem, hg]; omega)) ?_
          refine hκ _ _ ?_; clear hκ hξ ξ κ
          refine rg [0, 5, 6, 7, 48, 49, 50] [] [] (by kernel_rfl) ?_; intro κ ξ hκ hξ
          try simp +decide only [go_sem, Nat.reduceMul, Nat.reduceAdd, Nat.reduceBEq, cond_false, beq_self_eq_true, decide_true, c0, hb33, c1, c2, hb11, hw1, ← he1, hw2, ← he2, c3, hkk, hkw, hkl, hnx]
          repeat with_reducible refine And.intro (by first | assumption | omega | (simp; done) | (simp; omega) | (intro hg; simp +decide only [go_sem, hg]; done) | (intro hg; simp +decide only [go_sem, hg]; omega)) ?_
          refine hκ _ _ ?_; clear hκ hξ ξ κ
          refine ⟨(p.1, es2, j + 1), ⟨⟨by simp only; omega, hrun2⟩, by simp only; omega⟩, EnvLe.of_eq ?_, .refl _⟩
          rw [w64 (n := (j : Int) + 1) (by omega)]
          rfl
        · simp only [go_sem] at c3
          have hnx : newL m = newL p.1 := new_none hpl (by omega)
          refine sk ?_
          refine sq ?_
          refine rg [0, 5, 6, 7, 14, 48, 49, 50] [] [] (by kernel_rfl) ?_; intro κ ξ hκ hξ
          try simp +decide only [go_sem, Nat.reduceMul, Nat.reduceAdd, Nat.reduceBEq, cond_false, beq_self_eq_true, decide_true, c0, hb33, c1, c2, hb11, hw1, ← he1, hw2, ← he2, c3, hnx]
          repeat with_reducible refine And.intro (by first | assumption | omega | (simp; done) | (simp; omega) | (intro hg; simp +decide only [go_sem, hg]; done) | (intro hg; simp +decide only [go_sem, hg]; omega)) ?_
          refine hκ _ _ ?_; clear hκ hξ ξ κ
          refine rg [0, 5, 6, 7, 48, 49, 50] [] [] (by kernel_rfl) ?_; intro κ ξ hκ hξ
          try simp +decide only [go_sem, Nat.reduceMul, Nat.reduceAdd, Nat.reduceBEq, cond_false, beq_self_eq_true, decide_true, c0, hb33, c1, c2, hb11, hw1, ← he1, hw2, ← he2, c3, hnx]
          repeat with_reducible refine And.intro (by first | assumption | omega | (simp; done) | (simp; omega) | (intro hg; simp +decide only [go_sem, hg]; done) | (intro hg; simp +decide only [go_sem, hg]; omega)) ?_
          refine hκ _ _ ?_; clear hκ hξ ξ κ
          refine rg [0, 5, 6, 7, 48, 49, 50] [] [] (by kernel_rfl) ?_; intro κ ξ hκ hξ
          try simp +decide only [go_sem, Nat.reduceMul, Nat.reduceAdd, Nat.reduceBEq, cond_false, beq_self_eq_true, decide_true, c0, hb33, c1, c2, hb11, hw1, ← he1, hw2, ← he2, c3, hnx]
          repeat with_reducible refine And.intro (by first | assumption | omega | (simp; done) | (simp; omega) | (intro hg; simp +decide only [go_sem, hg]; done) | (intro hg; simp +decide only [go_sem, hg]; omega)) ?_
          refine hκ _ _ ?_; clear hκ hξ ξ κ
          refine ⟨(p.1, es2, j + 1), ⟨⟨by simp only; omega, hrun2⟩, by simp only; omega⟩, EnvLe.of_eq ?_, .refl _⟩
          rw [w64 (n := (j : Int) + 1) (by omega)]
          rfl
      · try simp only [go_sem] at c2
        refine ex ?_
        refine sq ?_
        refine rg [0, 5, 6, 7] [] [] (by kernel_rfl) ?_; intro κ ξ hκ hξ
        try simp +decide only [go_sem, Nat.reduceMul, Nat.reduceAdd, Nat.reduceBEq, cond_false, beq_self_eq_true, decide_true, c0, hb33, c1, c2]
        repeat with_reducible refine And.intro (by first | assumption | omega | (simp; done) | (simp; omega) | (intro hg; simp +decide only [go_sem, hg]; done) | (intro hg; simp +decide only [go_sem, hg]; omega)) ?_
        refine hκ _ _ ?_; clear hκ hξ ξ κ
        have hms := run_zero' hrun
        obtain ⟨es3, he3⟩ : ∃ es3, es3 = mzp es 0 0 := ⟨_, rfl⟩
        rw [← he3] at hms ⊢
        have hm5 := (ver_true.1 hvm).1
        refine sq ?_
        refine rg [0, 5, 6, 7, 15] [] [] (by kernel_rfl) ?_; intro κ ξ hκ hξ
        try simp +decide only [go_sem, Nat.reduceMul, Nat.reduceAdd, Nat.reduceBEq, cond_false, beq_self_eq_true, decide_true, c0, hb33, c1, c2]
        repeat with_reducible refine And.intro (by first | assumption | omega | (simp; done) | (simp; omega) | (intro hg; simp +decide only [go_sem, hg]; done) | (intro hg; simp +decide only [go_sem, hg]; omega)) ?_
        refine hκ _ _ ?_; clear hκ hξ ξ κ
        refine sq ?_
        refine sq ?_
        refine rg [0, 5, 6, 7, 15, 84, 85, 86] [] [] (by kernel_rfl) ?_; intro κ ξ hκ hξ
        try simp +decide only [go_sem, Nat.reduceMul, Nat.reduceAdd, Nat.reduceBEq, cond_false, beq_self_eq_true, decide_true, c0, hb33, c1, c2]
        repeat with_reducible refine And.intro (by first | assumption | omega | (simp; done) | (simp; omega) | (intro hg; simp +decide only [go_sem, hg]; done) | (intro hg; simp +decide only [go_sem, hg]; omega)) ?_
        refine hκ _ _ ?_; clear hκ hξ ξ κ
        refine bl ?_
        refine lp (α := Nat) (fun i => mk [(0, .sl 6 (m.map verow) .no), (5, .bool true), (6, .mp b33), (7, .int .i64 (newL m)), (15, .int .i64 i), (84, .sl 6 (m.map verow) .no), (85, .int .i64 m.length), (86, .int .i64 i)]) (fun i => [(b33, .map (mE es3))]) (fun i => i ≤ m.length) (fun i => m.length - i) 0 ⟨by omega, EnvLe.of_eq rfl, .refl _⟩ ?_
        rintro i hi
        refine sq ?_
        refine rg [0, 5, 6, 7, 15, 84, 85, 86, 87] [] [] (by kernel_rfl) ?_; intro κ ξ hκ hξ
        try simp +decide only [go_sem, Nat.reduceMul, Nat.reduceAdd, Nat.reduceBEq, cond_false, beq_self_eq_true, decide_true, c0, hb33, c1, c2]
        repeat with_reducible refine And.intro (by first | assumption | omega | (simp; done) | (simp; omega) | (intro hg; simp +decide only [go_sem, hg]; done) | (intro hg; simp +decide only [go_sem, hg]; omega)) ?_
        refine hκ _ _ ?_; clear hκ hξ ξ κ
        refine sq ?_
        refine cd (by rfl) (fun c4 => ?_) (fun c4 => ?_)
        · simp only [go_sem] at c4
          have hz : mz es3 (veat m i).num = (veat m i).holds := by
            have hi2 : i < m.length := by omega
            rw [hms.1 _ (mem_pos hvm (veat_mem hi2)), hv_mem (ver_nl hvm) (veat_mem hi2)]
          refine sk ?_
          refine sq ?_
          refine bl ?_
          refine sq ?_
          refine rgz [(17, [])] [0, 5, 6, 7, 15, 17, 84, 85, 86] [] [] (by kernel_rfl) ?_; intro κ ξ hκ hξ
          try simp +decide only [go_sem, Nat.reduceMul, Nat.reduceAdd, Nat.reduceBEq, cond_false, beq_self_eq_true, decide_true, c0, hb33, c1, c2, c4, hz]
          repeat with_reducible refine And.intro (by first | assumption | omega | (simp; done) | (simp; omega) | (intro hg; simp +decide only [go_sem, hg]; done) | (intro hg; simp +decide only [go_sem, hg]; omega)) ?_
          intro b17 hb17
          try simp +decide only [go_sem, Nat.reduceMul, Nat.reduceAdd, Nat.reduceBEq, cond_false, beq_self_eq_true, decide_true, c0, hb33, c1, c2, c4, hz, hb17]
          repeat with_reducible refine And.intro (by first | assumption | omega | (simp; done) | (simp; omega) | (intro hg; simp +decide only [go_sem, hg]; done) | (intro hg; simp +decide only [go_sem, hg]; omega)) ?_
          refine hκ _ _ ?_; clear hκ hξ ξ κ
          refine sq ?_
          refine sq ?_
          refine rg [0, 5, 6, 7, 15, 84, 85, 86, 96] [] [] (by kernel_rfl) ?_; intro κ ξ hκ hξ
          try simp +decide only [go_sem, Nat.reduceMul, Nat.reduceAdd, Nat.reduceBEq, cond_false, beq_self_eq_true, decide_true, c0, hb33, c1, c2, c4, hz, hb17]
          repeat with_reducible refine And.intro (by first | assumption | omega | (simp; done) | (simp; omega) | (intro hg; simp +decide only [go_sem, hg]; done) | (intro hg; simp +decide only [go_sem, hg]; omega)) ?_
          refine hκ _ _ ?_; clear hκ hξ ξ κ
          refine cdf (by rfl) ?_
          refine sk ?_
          refine rg [0, 5, 6, 7, 15, 84, 85, 86] [] [] (by kernel_rfl) ?_; intro κ ξ hκ hξ
          try simp +decide only [go_sem, Nat.reduceMul, Nat.reduceAdd, Nat.reduceBEq, cond_false, beq_self_eq_true, decide_true, c0, hb33, c1, c2, c4, hz, hb17]
          repeat with_reducible refine And.intro (by first | assumption | omega | (simp; done) | (simp; omega) | (intro hg; simp +decide only [go_sem, hg]; done) | (intro hg; simp +decide only [go_sem, hg]; omega)) ?_
          refine hκ _ _ ?_; clear hκ hξ ξ κ
          refine rg [0, 5, 6, 7, 15, 84, 85, 86] [] [] (by kernel_rfl) ?_; intro κ ξ hκ hξ
          try simp +decide only [go_sem, Nat.reduceMul, Nat.reduceAdd, Nat.reduceBEq, cond_false, beq_self_eq_true, decide_true, c0, hb33, c1, c2, c4, hz, hb17]
          repeat with_reducible refine And.intro (by first | assumption | omega | (simp; done) | (simp; omega) | (intro hg; simp +decide only [go_sem, hg]; done) | (intro hg; simp +decide only [go_sem, hg]; omega)) ?_
          refine hκ _ _ ?_; clear hκ hξ ξ κ
          refine ⟨i + 1, ⟨by omega, by omega⟩, EnvLe.of_eq ?_, .refl _⟩
          rw [w64 (n := (i : Int) + 1) (by omega)]
          rfl
        · simp only [go_sem] at c4
          obtain rfl : i = m.length := by omega
          refine ex ?_
          refine sq ?_
          refine rg [0, 5, 6, 7, 15, 18] [] [] (by kernel_rfl) ?_; intro κ ξ hκ hξ
          try simp +decide only [go_sem, Nat.reduceMul, Nat.reduceAdd, Nat.reduceBEq, cond_false, beq_self_eq_true, decide_true, c0, hb33, c1, c2, c4]
          repeat with_reducible refine And.intro (by first | assumption | omega | (simp; done) | (simp; omega) | (intro hg; simp +decide only [go_sem, hg]; done) | (intro hg; simp +decide only [go_sem, hg]; omega)) ?_
          refine hκ _ _ ?_; clear hκ hξ ξ κ
          refine sq ?_
          refine sq ?_
          refine rgS [0, 5, 6, 7, 15, 18, 101] (by kernel_rfl) ?_; intro κ ξ hκ hξ
          refine vS_q trivial ?_
          refine vS_range (m := b33) (es := mE es3) (by rfl) (by simp [Store.get]) (by rw [tf208]; rfl) fun it him bi hbi => ?_
          subst him
          refine vS_nil ?_
          refine hκ _ _ ?_; clear hκ hξ ξ κ
          refine weak (mk [(0, .sl 6 (m.map verow) .no), (5, .bool true), (6, .mp it.m), (7, .int .i64 (newL m)), (15, .int .i64 m.length), (18, .int .i64 0), (101, .ptr bi 0)]) (EnvLe.of_l ⟨rfl, rfl, rfl, rfl, rfl, rfl, rfl, trivial⟩) (.refl _) ?_
          have hu : Store.upd [(it.m, .map (mE es3))] it.m it.mb = [(it.m, it.mb)] := by simp [Store.upd]
          rw [hu]
          simp only [nk_cons, not_or] at hbi
          refine bl ?_
          refine lp (α := List Nat) (fun pos => mk [(0, .sl 6 (m.map verow) .no), (5, .bool true), (6, .mp it.m), (7, .int .i64 (newL m)), (15, .int .i64 m.length), (18, .int .i64 (IntKind.wrap .i64 (cntP es3 (newL m) pos))), (101, .ptr bi 0)]) (fun pos => (bi, it.ib pos) :: [(it.m, it.mb)]) (fun pos => (∀ i ∈ pos, i < es3.length) ∧ pos.Nodup) (fun pos => leftN es3.length pos) [] ⟨⟨by simp, by simp⟩, EnvLe.refl _, .refl _⟩ ?_
          rintro pos ⟨hp1, hp2⟩
          refine jn (α := Option Nat) (fun o => mk [(0, .sl 6 (m.map verow) .no), (5, .bool true), (6, .mp it.m), (7, .int .i64 (newL m)), (15, .int .i64 m.length), (18, .int .i64 (IntKind.wrap .i64 (cntP es3 (newL m) pos))), (101, .ptr bi 0), (103, .bool o.isSome)]) (fun o => (bi, it.ib (seenO pos o)) :: [(it.m, it.mb)]) (fun o => match o with | none => ∀ i, i < es3.length → i ∈ pos | some i => i < es3.length ∧ i ∉ pos) ?_ ?_
          · refine rgS [0, 5, 6, 7, 15, 18, 101, 103] (by kernel_rfl) ?_; intro κ ξ hκ hξ
            refine vS_next it pos (by rfl) (by simp [Store.get]) (by simp [Store.get, hbi]) (by rw [mE_len]; exact hp1) (fun hall => ?_) (fun i hi hnp => ?_)
            · refine vS_q trivial ?_
              refine vS_nil ?_
              refine hκ _ _ ?_; clear hκ hξ ξ κ
              exact ⟨none, by rw [mE_len] at hall; exact hall, EnvLe.of_l ⟨rfl, rfl, rfl, rfl, rfl, rfl, rfl, rfl, trivial⟩, .refl _⟩
            · refine vS_q trivial ?_
              refine vS_nil ?_
              refine hκ _ _ ?_; clear hκ hξ ξ κ
              refine ⟨some i, ⟨by rw [mE_len] at hi; exact hi, hnp⟩, EnvLe.of_l ⟨rfl, rfl, rfl, rfl, rfl, rfl, rfl, rfl, trivial⟩, ?_⟩
              simp only [Store.upd, if_true, seenO]
              exact .refl _
          · rintro o ho
            refine sq ?_
            refine cd (by rfl) (fun c5 => ?_) (fun c5 => ?_)
            · obtain ⟨i, rfl⟩ := Option.isSome_iff_exists.1 c5
              simp only at ho
              refine sk ?_
              refine bl ?_
              refine sq ?_
              refine rgS [0, 5, 6, 7, 15, 18, 19, 20, 101] (by kernel_rfl) ?_; intro κ ξ hκ hξ
              refine vS_entry it pos (by rfl) (by simp only [Store.get, if_true]; rfl) (by simp [Store.get, hbi]) (by rw [mE_len]; exact ho.1) ?_
              rw [mpat_E ho.1]
              refine vS_q trivial ?_
              refine vS_q trivial ?_
              refine vS_q trivial ?_
              refine vS_q trivial ?_
              refine vS_nil ?_
              refine hκ _ _ ?_; clear hκ hξ ξ κ
              refine weak (mk [(0, .sl 6 (m.map verow) .no), (5, .bool true), (6, .mp it.m), (7, .int .i64 (newL m)), (15, .int .i64 m.length), (18, .int .i64 (IntKind.wrap .i64 (cntP es3 (newL m) pos))), (19, .int .i64 (mpat es3 i).1), (20, .int .i64 (mpat es3 i).2), (101, .ptr bi 0)]) (EnvLe.of_l ⟨rfl, rfl, rfl, rfl, rfl, rfl, rfl, rfl, rfl, trivial⟩) (.refl _) ?_
              refine sq ?_
              refine rg [0, 5, 6, 7, 15, 18, 101, 117] [] [(2, 109), (5, 112)] (by kernel_rfl) ?_; intro κ ξ hκ hξ
              try simp +decide only [go_sem, Nat.reduceMul, Nat.reduceAdd, Nat.reduceBEq, cond_false, beq_self_eq_true, decide_true, c0, hb33, c1, c2, c4, c5, hbi]
              repeat with_reducible refine And.intro (by first | assumption | omega | (simp; done) | (simp; omega) | (intro hg; simp +decide only [go_sem, hg]; done) | (intro hg; simp +decide only [go_sem, hg]; omega)) ?_
              refine hκ _ _ ?_; clear hκ hξ ξ κ
              refine cd (by rfl) (fun c6 => ?_) (fun c6 => ?_)
              · simp only [go_sem] at c6
                have hq : qual (newL m) (mpat es3 i) = true := by rw [qual_true]; omega
                refine rg [0, 5, 6, 7, 15, 18, 101] [] [] (by kernel_rfl) ?_; intro κ ξ hκ hξ
                try simp +decide only [go_sem, Nat.reduceMul, Nat.reduceAdd, Nat.reduceBEq, cond_false, beq_self_eq_true, decide_true, c0, hb33, c1, c2, c4, c5, hbi, c6]
                repeat with_reducible refine And.intro (by first | assumption | omega | (simp; done) | (simp; omega) | (intro hg; simp +decide only [go_sem, hg]; done) | (intro hg; simp +decide only [go_sem, hg]; omega)) ?_
                refine hκ _ _ ?_; clear hκ hξ ξ κ
                refine ⟨pos ++ [i], ⟨⟨?_, ?_⟩, leftN_lt ho.1 ho.2⟩, EnvLe.of_eq ?_, .refl _⟩
                · intro x hx
                  rcases List.mem_append.1 hx with h | h
                  · exact hp1 x h
                  · rw [List.mem_singleton.1 h]; exact ho.1
                · rw [List.nodup_append]
                  refine ⟨hp2, by simp, fun a ha b hb e => ?_⟩
                  rw [List.mem_singleton] at hb
                  subst hb; subst e
                  exact ho.2 ha
                · rw [cntP_snoc, if_pos hq]
                  rw [wrap_succ]
                  rfl
              · simp only [go_sem] at c6
                have hq : ¬ qual (newL m) (mpat es3 i) = true := by rw [qual_true]; omega
                refine sk ?_
                refine ⟨pos ++ [i], ⟨⟨?_, ?_⟩, leftN_lt ho.1 ho.2⟩, EnvLe.of_l ?_, .refl _⟩
                · intro x hx
                  rcases List.mem_append.1 hx with h | h
                  · exact hp1 x h
                  · rw [List.mem_singleton.1 h]; exact ho.1
                · rw [List.nodup_append]
                  refine ⟨hp2, by simp, fun a ha b hb e => ?_⟩
                  rw [List.mem_singleton] at hb
                  subst hb; subst e
                  exact ho.2 ha
                · rw [cntP_snoc, if_neg hq, Nat.add_zero]
                  exact ⟨rfl, rfl, rfl, rfl, rfl, rfl, rfl, trivial⟩
            · have hon : o = none := by cases o with
                | none => rfl
                | some i => cases c5
              subst hon
              simp only at ho
              have hct := cntP_all (nw := newL m) hp2 hp1 ho
              refine mapBack it (by simp [Store.get, hbi, seenO]) ?_
              refine weak (mk [(0, .sl 6 (m.map verow) .no), (5, .bool true), (6, .mp it.m), (7, .int .i64 (newL m)), (15, .int .i64 m.length), (18, .int .i64 (IntKind.wrap .i64 (cntP es3 (newL m) pos)))]) (EnvLe.of_l ⟨rfl, rfl, rfl, rfl, rfl, rfl, trivial⟩) (σ' := [(it.m, .map (mE es3))]) ?_ ?_
              · rw [show Store.upd _ it.m _ = (bi, _) :: [(it.m, Box.map (mE es3))] from by simp only [Store.upd, hbi.1, if_false, if_true]; rfl]
                exact (List.Sublist.refl _).cons _
              have hm50 : (m.length : Int) ≤ 50 := by omega
              refine ex ?_
              refine sq ?_
              refine sq ?_
              rcases (show m.length = 0 ∨ (m.length ≠ 0 ∧ newL m ∈ es3.map Prod.fst) ∨ (m.length ≠ 0 ∧ newL m ∉ es3.map Prod.fst) from by by_cases h1 : m.length = 0 <;> by_cases h2 : newL m ∈ es3.map Prod.fst <;> simp [h1, h2]) with hml | ⟨hml, hkn⟩ | ⟨hml, hkn⟩
              · have hnw : newL m = 0 := if_pos hml
                have hc0 := hct.trans (count_known hvm hms.1 hms.2 fun h => absurd hml h)
                have hc : IntKind.wrap .i64 (cntP es3 (newL m) pos) = m.length := by rw [hc0, w64 (by omega)]
                rw [hnw] at hc
                refine rg [0, 5, 6, 7, 15, 18, 127] [] [(2, 122)] (by kernel_rfl) ?_; intro κ ξ hκ hξ
                try simp +decide only [go_sem, Nat.reduceMul, Nat.reduceAdd, Nat.reduceBEq, cond_false, beq_self_eq_true, decide_true, c0, hb33, c1, c2, c4, c5, hnw, hc, hvm, Int.lt_irrefl]
                repeat with_reducible refine And.intro (by first | assumption | omega | (simp; done) | (simp; omega) | (intro hg; simp +decide only [go_sem, hg]; done) | (intro hg; simp +decide only [go_sem, hg]; omega)) ?_
                refine hκ _ _ ?_; clear hκ hξ ξ κ
                refine cdf (by rfl) ?_
                refine sk ?_
                refine sq ?_
                refine rg [4] [] [(1, 139), (5, 143), (10, 148), (13, 151)] (by kernel_rfl) ?_; intro κ ξ hκ hξ
                try simp +decide only [go_sem, Nat.reduceMul, Nat.reduceAdd, Nat.reduceBEq, cond_false, beq_self_eq_true, decide_true, c0, hb33, c1, c2, c4, c5, hnw, hc, hvm, Int.lt_irrefl]
                repeat with_reducible refine And.intro (by first | assumption | omega | (simp; done) | (simp; omega) | (intro hg; simp +decide only [go_sem, hg]; done) | (intro hg; simp +decide only [go_sem, hg]; omega)) ?_
                refine vo_gc ?_; simp +decide only [go_sem, beq_self_eq_true, decide_true, c0, hb33, c1, c2, c4, c5, hnw, hc, hvm, Int.lt_irrefl]; refine gcallF (fun hg => ⟨by first | rfl | (simp +decide only [go_sem, hg, beq_self_eq_true, decide_true, c0, hb33, c1, c2, c4, c5, hnw, hc, hvm, Int.lt_irrefl]; done) | exact hg | simpa using hg, ver_w _ _⟩) ?_
                try simp +decide only [go_sem, Nat.reduceMul, Nat.reduceAdd, Nat.reduceBEq, cond_false, beq_self_eq_true, decide_true, c0, hb33, c1, c2, c4, c5, hnw, hc, hvm, Int.lt_irrefl]
                repeat with_reducible refine And.intro (by first | assumption | omega | (simp; done) | (simp; omega) | (intro hg; simp +decide only [go_sem, hg]; done) | (intro hg; simp +decide only [go_sem, hg]; omega)) ?_
                refine hκ _ _ ?_; clear hκ hξ ξ κ
                refine rt ?_
                refine retE ?_
                simp +decide only [go_sem, resD, resV, beq_self_eq_true, decide_true, c0, hb33, c1, c2, c4, c5, hnw, hc, hvm, Int.lt_irrefl]
                
              · have hc0 := hct.trans (count_known hvm hms.1 hms.2 fun _ => hkn)
                have hc : IntKind.wrap .i64 (cntP es3 (newL m) pos) = m.length := by rw [hc0, w64 (by omega)]
                have hkt : kn es3 (newL m) = true := decide_eq_true hkn
                obtain ⟨k, hkk⟩ : ∃ k : Nat, (m.length : Int) - 1 = (k : Int) := ⟨m.length - 1, by omega⟩
                have hkw : IntKind.wrap .i64 (k : Int) = k := w64 (by omega)
                have hkl : (k : Int) < m.length := by omega
                have hlast : (veat m k).num = newL m := by
                  unfold newL
                  rw [if_neg hml, show m.length - 1 = k from by omega]
                have hnp : 0 < newL m := by
                  rw [← hlast]
                  exact mem_pos hvm (veat_mem (by omega))
                have hnz : ¬ newL m = 0 := by omega
                refine rg [0, 5, 6, 7, 15, 18, 127] [] [(2, 122)] (by kernel_rfl) ?_; intro κ ξ hκ hξ
                try simp +decide only [go_sem, Nat.reduceMul, Nat.reduceAdd, Nat.reduceBEq, cond_false, beq_self_eq_true, decide_true, c0, hb33, c1, c2, c4, c5, hc, hkt, hkk, hkw, hkl, hlast, hnp, hnz, hvm]
                repeat with_reducible refine And.intro (by first | assumption | omega | (simp; done) | (simp; omega) | (intro hg; simp +decide only [go_sem, hg]; done) | (intro hg; simp +decide only [go_sem, hg]; omega)) ?_
                refine hκ _ _ ?_; clear hκ hξ ξ κ
                refine cd (by rfl) (fun c7 => ?_) (fun c7 => ?_)
                · try simp only [go_sem] at c7
                  refine sq ?_
                  refine rg [0, 5, 7, 15, 18, 22] [] [] (by kernel_rfl) ?_; intro κ ξ hκ hξ
                  try simp +decide only [go_sem, Nat.reduceMul, Nat.reduceAdd, Nat.reduceBEq, cond_false, beq_self_eq_true, decide_true, c0, hb33, c1, c2, c4, c5, hc, hkt, hkk, hkw, hkl, hlast, hnp, hnz, hvm, c7]
                  repeat with_reducible refine And.intro (by first | assumption | omega | (simp; done) | (simp; omega) | (intro hg; simp +decide only [go_sem, hg]; done) | (intro hg; simp +decide only [go_sem, hg]; omega)) ?_
                  refine hκ _ _ ?_; clear hκ hξ ξ κ
                  refine sq ?_
                  refine rg [0, 5, 7, 15, 18, 135] [] [] (by kernel_rfl) ?_; intro κ ξ hκ hξ
                  try simp +decide only [go_sem, Nat.reduceMul, Nat.reduceAdd, Nat.reduceBEq, cond_false, beq_self_eq_true, decide_true, c0, hb33, c1, c2, c4, c5, hc, hkt, hkk, hkw, hkl, hlast, hnp, hnz, hvm, c7]
                  repeat with_reducible refine And.intro (by first | assumption | omega | (simp; done) | (simp; omega) | (intro hg; simp +decide only [go_sem, hg]; done) | (intro hg; simp +decide only [go_sem, hg]; omega)) ?_
                  refine hκ _ _ ?_; clear hκ hξ ξ κ
                  refine cdf (by rfl) ?_
                  refine sk ?_
                  refine sq ?_
                  refine rg [4] [] [(1, 139), (5, 143), (10, 148), (13, 151)] (by kernel_rfl) ?_; intro κ ξ hκ hξ
                  try simp +decide only [go_sem, Nat.reduceMul, Nat.reduceAdd, Nat.reduceBEq, cond_false, beq_self_eq_true, decide_true, c0, hb33, c1, c2, c4, c5, hc, hkt, hkk, hkw, hkl, hlast, hnp, hnz, hvm, c7]
                  repeat with_reducible refine And.intro (by first | assumption | omega | (simp; done) | (simp; omega) | (intro hg; simp +decide only [go_sem, hg]; done) | (intro hg; simp +decide only [go_sem, hg]; omega)) ?_
                  refine vo_gc ?_; simp +decide only [go_sem, beq_self_eq_true, decide_true, c0, hb33, c1, c2, c4, c5, hc, hkt, hkk, hkw, hkl, hlast, hnp, hnz, hvm, c7]; refine gcallF (fun hg => ⟨by first | rfl | (simp +decide only [go_sem, hg, beq_self_eq_true, decide_true, c0, hb33, c1, c2, c4, c5, hc, hkt, hkk, hkw, hkl, hlast, hnp, hnz, hvm, c7]; done) | exact hg | simpa using hg, ver_w _ _⟩) ?_
                  try simp +decide only [go_sem, Nat.reduceMul, Nat.reduceAdd, Nat.reduceBEq, cond_false, beq_self_eq_true, decide_true, c0, hb33, c1, c2, c4, c5, hc, hkt, hkk, hkw, hkl, hlast, hnp, hnz, hvm, c7]
                  repeat with_reducible refine And.intro (by first | assumption | omega | (simp; done) | (simp; omega) | (intro hg; simp +decide only [go_sem, hg]; done) | (intro hg; simp +decide only [go_sem, hg]; omega)) ?_
                  refine hκ _ _ ?_; clear hκ hξ ξ κ
                  refine rt ?_
                  refine retE ?_
                  simp +decide only [go_sem, resD, resV, beq_self_eq_true, decide_true, c0, hb33, c1, c2, c4, c5, hc, hkt, hkk, hkw, hkl, hlast, hnp, hnz, hvm, c7]
                  
                · try simp only [go_sem] at c7
                  refine sk ?_
                  refine sq ?_
                  refine rg [4] [] [(1, 139), (5, 143), (10, 148), (13, 151)] (by kernel_rfl) ?_; intro κ ξ hκ hξ
                  try simp +decide only [go_sem, Nat.reduceMul, Nat.reduceAdd, Nat.reduceBEq, cond_false, beq_self_eq_true, decide_true, c0, hb33, c1, c2, c4, c5, hc, hkt, hkk, hkw, hkl, hlast, hnp, hnz, hvm, c7]
                  repeat with_reducible refine And.intro (by first | assumption | omega | (simp; done) | (simp; omega) | (intro hg; simp +decide only [go_sem, hg]; done) | (intro hg; simp +decide only [go_sem, hg]; omega)) ?_
                  refine vo_gc ?_; simp +decide only [go_sem, beq_self_eq_true, decide_true, c0, hb33, c1, c2, c4, c5, hc, hkt, hkk, hkw, hkl, hlast, hnp, hnz, hvm, c7]; refine gcallF (fun hg => ⟨by first | rfl | (simp +decide only [go_sem, hg, beq_self_eq_true, decide_true, c0, hb33, c1, c2, c4, c5, hc, hkt, hkk, hkw, hkl, hlast, hnp, hnz, hvm, c7]; done) | exact hg | simpa using hg, ver_w _ _⟩) ?_
                  try simp +decide only [go_sem, Nat.reduceMul, Nat.reduceAdd, Nat.reduceBEq, cond_false, beq_self_eq_true, decide_true, c0, hb33, c1, c2, c4, c5, hc, hkt, hkk, hkw, hkl, hlast, hnp, hnz, hvm, c7]
                  repeat with_reducible refine And.intro (by first | assumption | omega | (simp; done) | (simp; omega) | (intro hg; simp +decide only [go_sem, hg]; done) | (intro hg; simp +decide only [go_sem, hg]; omega)) ?_
                  refine hκ _ _ ?_; clear hκ hξ ξ κ
                  refine rt ?_
                  refine retE ?_
                  simp +decide only [go_sem, resD, resV, beq_self_eq_true, decide_true, c0, hb33, c1, c2, c4, c5, hc, hkt, hkk, hkw, hkl, hlast, hnp, hnz, hvm, c7]
                  
              · have hc1 := count_new hvm hms.1 hms.2 hml hkn
                rw [← hct] at hc1
                have hc : IntKind.wrap .i64 (IntKind.wrap .i64 (cntP es3 (newL m) pos) + 1) = m.length := by rw [wrap_succ, w64 (by omega)]; omega
                have hz0 := new_unknown hkn
                have hkt : kn es3 (newL m) = false := decide_eq_false hkn
                obtain ⟨k, hkk⟩ : ∃ k : Nat, (m.length : Int) - 1 = (k : Int) := ⟨m.length - 1, by omega⟩
                have hkw : IntKind.wrap .i64 (k : Int) = k := w64 (by omega)
                have hkl : (k : Int) < m.length := by omega
                have hlast : (veat m k).num = newL m := by
                  unfold newL
                  rw [if_neg hml, show m.length - 1 = k from by omega]
                have hnp : 0 < newL m := by
                  rw [← hlast]
                  exact mem_pos hvm (veat_mem (by omega))
                have hnz : ¬ newL m = 0 := by omega
                refine rg [0, 5, 6, 7, 15, 18, 127] [] [(2, 122)] (by kernel_rfl) ?_; intro κ ξ hκ hξ
                try simp +decide only [go_sem, Nat.reduceMul, Nat.reduceAdd, Nat.reduceBEq, cond_false, beq_self_eq_true, decide_true, c0, hb33, c1, c2, c4, c5, hc, hkt, hz0, hkk, hkw, hkl, hlast, hnp, hnz, hvm]
                repeat with_reducible refine And.intro (by first | assumption | omega | (simp; done) | (simp; omega) | (intro hg; simp +decide only [go_sem, hg]; done) | (intro hg; simp +decide only [go_sem, hg]; omega)) ?_
                refine hκ _ _ ?_; clear hκ hξ ξ κ
                refine cdt (by rfl) ?_
                refine sq ?_
                refine rg [0, 5, 7, 15, 18, 22] [] [] (by kernel_rfl) ?_; intro κ ξ hκ hξ
                try simp +decide only [go_sem, Nat.reduceMul, Nat.reduceAdd, Nat.reduceBEq, cond_false, beq_self_eq_true, decide_true, c0, hb33, c1, c2, c4, c5, hc, hkt, hz0, hkk, hkw, hkl, hlast, hnp, hnz, hvm]
                repeat with_reducible refine And.intro (by first | assumption | omega | (simp; done) | (simp; omega) | (intro hg; simp +decide only [go_sem, hg]; done) | (intro hg; simp +decide only [go_sem, hg]; omega)) ?_
                refine hκ _ _ ?_; clear hκ hξ ξ κ
                refine sq ?_
                refine rg [0, 5, 7, 15, 18, 135] [] [] (by kernel_rfl) ?_; intro κ ξ hκ hξ
                try simp +decide only [go_sem, Nat.reduceMul, Nat.reduceAdd, Nat.reduceBEq, cond_false, beq_self_eq_true, decide_true, c0, hb33, c1, c2, c4, c5, hc, hkt, hz0, hkk, hkw, hkl, hlast, hnp, hnz, hvm]
                repeat with_reducible refine And.intro (by first | assumption | omega | (simp; done) | (simp; omega) | (intro hg; simp +decide only [go_sem, hg]; done) | (intro hg; simp +decide only [go_sem, hg]; omega)) ?_
                refine hκ _ _ ?_; clear hκ hξ ξ κ
                refine cdt (by rfl) ?_
                refine rg [0, 5, 7, 15, 18] [] [] (by kernel_rfl) ?_; intro κ ξ hκ hξ
                try simp +decide only [go_sem, Nat.reduceMul, Nat.reduceAdd, Nat.reduceBEq, cond_false, beq_self_eq_true, decide_true, c0, hb33, c1, c2, c4, c5, hc, hkt, hz0, hkk, hkw, hkl, hlast, hnp, hnz, hvm]
                repeat with_reducible refine And.intro (by first | assumption | omega | (simp; done) | (simp; omega) | (intro hg; simp +decide only [go_sem, hg]; done) | (intro hg; simp +decide only [go_sem, hg]; omega)) ?_
                refine hκ _ _ ?_; clear hκ hξ ξ κ
                refine sq ?_
                refine rg [4] [] [(1, 139), (5, 143), (10, 148), (13, 151)] (by kernel_rfl) ?_; intro κ ξ hκ hξ
                try simp +decide only [go_sem, Nat.reduceMul, Nat.reduceAdd, Nat.reduceBEq, cond_false, beq_self_eq_true, decide_true, c0, hb33, c1, c2, c4, c5, hc, hkt, hz0, hkk, hkw, hkl, hlast, hnp, hnz, hvm]
                repeat with_reducible refine And.intro (by first | assumption | omega | (simp; done) | (simp; omega) | (intro hg; simp +decide only [go_sem, hg]; done) | (intro hg; simp +decide only [go_sem, hg]; omega)) ?_
                refine vo_gc ?_; simp +decide only [go_sem, beq_self_eq_true, decide_true, c0, hb33, c1, c2, c4, c5, hc, hkt, hz0, hkk, hkw, hkl, hlast, hnp, hnz, hvm]; refine gcallF (fun hg => ⟨by first | rfl | (simp +decide only [go_sem, hg, beq_self_eq_true, decide_true, c0, hb33, c1, c2, c4, c5, hc, hkt, hz0, hkk, hkw, hkl, hlast, hnp, hnz, hvm]; done) | exact hg | simpa using hg, ver_w _ _⟩) ?_
                try simp +decide only [go_sem, Nat.reduceMul, Nat.reduceAdd, Nat.reduceBEq, cond_false, beq_self_eq_true, decide_true, c0, hb33, c1, c2, c4, c5, hc, hkt, hz0, hkk, hkw, hkl, hlast, hnp, hnz, hvm]
                repeat with_reducible refine And.intro (by first | assumption | omega | (simp; done) | (simp; omega) | (intro hg; simp +decide only [go_sem, hg]; done) | (intro hg; simp +decide only [go_sem, hg]; omega)) ?_
                refine hκ _ _ ?_; clear hκ hξ ξ κ
                refine rt ?_
                refine retE ?_
                simp +decide only [go_sem, resD, resV, beq_self_eq_true, decide_true, c0, hb33, c1, c2, c4, c5, hc, hkt, hz0, hkk, hkw, hkl, hlast, hnp, hnz, hvm]
                

end Go.Proofs.YtjjkgeeafjagkaaGreat

/- The law of what is held. Printed by a tool of our own. -/
import Derived.Test.YtjjkgeeafjagkaaGreatJLt
import Derived.Test.YtjjkgeeafjagkaaGreatJDi
import Derived.Test.YtjjkgeeafjagkaaGreatWj
namespace Go.Proofs.YtjjkgeeafjagkaaGreat
open Go Go.RowKit
set_option linter.unusedSimpArgs false
set_option linter.unusedVariables false
set_option maxHeartbeats 4000000
set_option maxRecDepth 100000
attribute [local go_sem] List.length_map rowAt_n nrow rowAt_t trow rowAt_i irow
attribute [local go_sem] rowAt_e rowAt_tm rowAt_dc rowAt_ru tmrow dcrow rurow
attribute [local go_sem] rowAt_br rowAt_s rowAt_fo rowAt_ve rowAt_g rowAt_k grow krow srow brrow forow dorow verow
attribute [local go_sem] crow rowAt_ca
theorem law4_w (l : List Ve) (t : Tok) (w : Int) (cs : List (Int × Int)) (u : Tok) : PCall Tryz.prog (.func 4) [.sl 6 (l.map verow) t, .int .u8 w, .sl 2 (cs.map crow) u] (.bool true) := by
  refine PCall.ok fun hok => ?_
  simp only [okAll, D.ok, okRows, and_true, true_and, lim_eq, inR_i64', inR_i32', inR_u8', inR_u16', inR_u64'] at hok
  obtain ⟨⟨hl, hr⟩, hw, hcl, hcr⟩ := hok; rw [List.length_map] at hl hcl
  have hww : IntKind.wrap .i64 w = w := w64 (by omega)
  refine PCall.le ?_
  refine fn_ Tryz.func4 (by rfl) (by rfl) (rs := [.tmp 6]) (by rfl) (by simp [Tryz.f4]) ?_
  refine sq ?_
  refine rg [0, 1, 2] [] [] (by kernel_rfl) ?_; intro κ ξ hκ hξ
  try simp +decide only [go_sem, Nat.reduceMul, Nat.reduceAdd, Nat.reduceBEq, cond_false, beq_self_eq_true, decide_true, hww]
  repeat with_reducible refine And.intro (by first | assumption | omega | (simp; done) | (simp; omega) | (intro hg; simp +decide only [go_sem, hg]; done) | (intro hg; simp +decide only [go_sem, hg]; omega)) ?_
  refine hκ _ _ ?_; clear hκ hξ ξ κ
  refine sq ?_
  refine rg [0, 1, 2, 7] [] [] (by kernel_rfl) ?_; intro κ ξ hκ hξ
  try simp +decide only [go_sem, Nat.reduceMul, Nat.reduceAdd, Nat.reduceBEq, cond_false, beq_self_eq_true, decide_true, hww]
  repeat with_reducible refine And.intro (by first | assumption | omega | (simp; done) | (simp; omega) | (intro hg; simp +decide only [go_sem, hg]; done) | (intro hg; simp +decide only [go_sem, hg]; omega)) ?_
  refine callF (head_w) ?_
  try simp +decide only [go_sem, Nat.reduceMul, Nat.reduceAdd, Nat.reduceBEq, cond_false, beq_self_eq_true, decide_true, hww]
  repeat with_reducible refine And.intro (by first | assumption | omega | (simp; done) | (simp; omega) | (intro hg; simp +decide only [go_sem, hg]; done) | (intro hg; simp +decide only [go_sem, hg]; omega)) ?_
  refine hκ _ _ ?_; clear hκ hξ ξ κ
  refine sq ?_
  refine sq ?_
  refine rg [0, 1, 2, 7, 32] [] [(3, 23), (8, 28)] (by kernel_rfl) ?_; intro κ ξ hκ hξ
  try simp +decide only [go_sem, Nat.reduceMul, Nat.reduceAdd, Nat.reduceBEq, cond_false, beq_self_eq_true, decide_true, hww]
  repeat with_reducible refine And.intro (by first | assumption | omega | (simp; done) | (simp; omega) | (intro hg; simp +decide only [go_sem, hg]; done) | (intro hg; simp +decide only [go_sem, hg]; omega)) ?_
  refine callF (usab_w _ _) ?_
  try simp +decide only [go_sem, Nat.reduceMul, Nat.reduceAdd, Nat.reduceBEq, cond_false, beq_self_eq_true, decide_true, hww]
  repeat with_reducible refine And.intro (by first | assumption | omega | (simp; done) | (simp; omega) | (intro hg; simp +decide only [go_sem, hg]; done) | (intro hg; simp +decide only [go_sem, hg]; omega)) ?_
  refine hκ _ _ ?_; clear hκ hξ ξ κ
  refine cd (by rfl) (fun c0 => ?_) (fun c0 => ?_)
  · simp only [go_sem] at c0
    refine sq ?_
    refine rg [6] [] [] (by kernel_rfl) ?_; intro κ ξ hκ hξ
    try simp +decide only [go_sem, Nat.reduceMul, Nat.reduceAdd, Nat.reduceBEq, cond_false, beq_self_eq_true, decide_true, hww, c0]
    repeat with_reducible refine And.intro (by first | assumption | omega | (simp; done) | (simp; omega) | (intro hg; simp +decide only [go_sem, hg]; done) | (intro hg; simp +decide only [go_sem, hg]; omega)) ?_
    refine hκ _ _ ?_; clear hκ hξ ξ κ
    refine rt ?_
    refine retE ?_
    simp +decide only [go_sem, resD, resV, beq_self_eq_true, decide_true, hww, c0]
    
  · simp only [go_sem] at c0
    have hv := c0.1.1.2
    have hln : l.length ≠ 0 := by omega
    obtain ⟨k, hk, hkl⟩ := mod_ix hw.1 hln
    have hk1 : (k : Int) < l.length := by omega
    have hl5 := (ver_true.1 hv).1
    have hkv := (vok_true.1 ((ver_true.1 hv).2 k hkl)).1
    have hdoc := doc_of hv (veat_mem hkl)
    refine sk ?_
    refine sq ?_
    refine rg [0, 1, 2, 7, 8] [] [] (by kernel_rfl) ?_; intro κ ξ hκ hξ
    try simp +decide only [go_sem, Nat.reduceMul, Nat.reduceAdd, Nat.reduceBEq, cond_false, beq_self_eq_true, decide_true, hww, c0, hk, hk1, hdoc]
    repeat with_reducible refine And.intro (by first | assumption | omega | (simp; done) | (simp; omega) | (intro hg; simp +decide only [go_sem, hg]; done) | (intro hg; simp +decide only [go_sem, hg]; omega)) ?_
    refine hκ _ _ ?_; clear hκ hξ ξ κ
    refine sq ?_
    refine rgz [(9, [])] [0, 1, 2, 7, 8, 9, 10] [] [] (by kernel_rfl) ?_; intro κ ξ hκ hξ
    try simp +decide only [go_sem, Nat.reduceMul, Nat.reduceAdd, Nat.reduceBEq, cond_false, beq_self_eq_true, decide_true, hww, c0, hk, hk1, hdoc]
    repeat with_reducible refine And.intro (by first | assumption | omega | (simp; done) | (simp; omega) | (intro hg; simp +decide only [go_sem, hg]; done) | (intro hg; simp +decide only [go_sem, hg]; omega)) ?_
    refine callF (vdoc_w _ _ _) ?_
    try simp +decide only [go_sem, Nat.reduceMul, Nat.reduceAdd, Nat.reduceBEq, cond_false, beq_self_eq_true, decide_true, hww, c0, hk, hk1, hdoc]
    repeat with_reducible refine And.intro (by first | assumption | omega | (simp; done) | (simp; omega) | (intro hg; simp +decide only [go_sem, hg]; done) | (intro hg; simp +decide only [go_sem, hg]; omega)) ?_
    intro b9 hb9
    try simp +decide only [go_sem, Nat.reduceMul, Nat.reduceAdd, Nat.reduceBEq, cond_false, beq_self_eq_true, decide_true, hww, c0, hk, hk1, hdoc, hb9]
    repeat with_reducible refine And.intro (by first | assumption | omega | (simp; done) | (simp; omega) | (intro hg; simp +decide only [go_sem, hg]; done) | (intro hg; simp +decide only [go_sem, hg]; omega)) ?_
    refine hκ _ _ ?_; clear hκ hξ ξ κ
    refine sq ?_
    refine sq ?_
    refine rg [0, 1, 2, 7, 8, 9, 50] [] [] (by kernel_rfl) ?_; intro κ ξ hκ hξ
    try simp +decide only [go_sem, Nat.reduceMul, Nat.reduceAdd, Nat.reduceBEq, cond_false, beq_self_eq_true, decide_true, hww, c0, hk, hk1, hdoc, hb9]
    repeat with_reducible refine And.intro (by first | assumption | omega | (simp; done) | (simp; omega) | (intro hg; simp +decide only [go_sem, hg]; done) | (intro hg; simp +decide only [go_sem, hg]; omega)) ?_
    refine hκ _ _ ?_; clear hκ hξ ξ κ
    refine cdf (by rfl) ?_
    refine sk ?_
    refine sq ?_
    refine rg [0, 2, 7, 8, 9, 11] [] [] (by kernel_rfl) ?_; intro κ ξ hκ hξ
    try simp +decide only [go_sem, Nat.reduceMul, Nat.reduceAdd, Nat.reduceBEq, cond_false, beq_self_eq_true, decide_true, hww, c0, hk, hk1, hdoc, hb9]
    repeat with_reducible refine And.intro (by first | assumption | omega | (simp; done) | (simp; omega) | (intro hg; simp +decide only [go_sem, hg]; done) | (intro hg; simp +decide only [go_sem, hg]; omega)) ?_
    refine hκ _ _ ?_; clear hκ hξ ξ κ
    refine sq ?_
    refine sq ?_
    refine rg [0, 7, 8, 9, 11, 60, 61, 62] [] [] (by kernel_rfl) ?_; intro κ ξ hκ hξ
    try simp +decide only [go_sem, Nat.reduceMul, Nat.reduceAdd, Nat.reduceBEq, cond_false, beq_self_eq_true, decide_true, hww, c0, hk, hk1, hdoc, hb9]
    repeat with_reducible refine And.intro (by first | assumption | omega | (simp; done) | (simp; omega) | (intro hg; simp +decide only [go_sem, hg]; done) | (intro hg; simp +decide only [go_sem, hg]; omega)) ?_
    refine hκ _ _ ?_; clear hκ hξ ξ κ
    refine bl ?_
    refine lp (α := List Ve × Int × Nat) (fun y => mk [(0, .sl 6 (y.1.map verow) .no), (7, .bool true), (8, .int .i64 (veat l k).num), (9, .el (dorow (veat l k).doc)), (11, .int .i64 y.2.1), (60, .sl 2 (cs.map crow) u), (61, .int .i64 cs.length), (62, .int .i64 y.2.2)]) (fun _ => []) (fun y => y.2.2 ≤ cs.length ∧ verB y.1 = true ∧ y.2.1 = hvL y.1 (veat l k).num ∧ ∃ x ∈ y.1, x.num = (veat l k).num ∧ x.doc = (veat l k).doc) (fun y => cs.length - y.2.2) (l, (veat l k).holds, 0) ⟨⟨by simp only; omega, hv, (hv_mem (ver_nl hv) (veat_mem hkl)).symm, veat l k, veat_mem hkl, rfl, rfl⟩, EnvLe.cons (DLe.tok _ _ _) (EnvLe.refl _), .refl _⟩ ?_
    rintro ⟨m, h, j⟩ ⟨hj, hvm, hh, x, hx1, hxn, hxd⟩
    simp only at hj hvm hh
    obtain ⟨i, hi, hie⟩ := mem_veat hx1
    have hhx : h = x.holds := by rw [hh, ← hxn]; exact hv_mem (ver_nl hvm) hx1
    have hhb := (vok_true.1 ((ver_true.1 hvm).2 i hi)).1.2.2.1
    rw [hie] at hhb
    have hca := caat_ok hcr j
    refine sq ?_
    refine rg [0, 7, 8, 9, 11, 60, 61, 62, 63] [] [] (by kernel_rfl) ?_; intro κ ξ hκ hξ
    try simp +decide only [go_sem, Nat.reduceMul, Nat.reduceAdd, Nat.reduceBEq, cond_false, beq_self_eq_true, decide_true, hww, c0, hk, hk1, hdoc, hb9]
    repeat with_reducible refine And.intro (by first | assumption | omega | (simp; done) | (simp; omega) | (intro hg; simp +decide only [go_sem, hg]; done) | (intro hg; simp +decide only [go_sem, hg]; omega)) ?_
    refine hκ _ _ ?_; clear hκ hξ ξ κ
    refine sq ?_
    refine cd (by rfl) (fun c1 => ?_) (fun c1 => ?_)
    · try simp only [go_sem] at c1
      refine sk ?_
      refine sq ?_
      refine bl ?_
      refine sq ?_
      refine rgz [(13, [])] [0, 7, 8, 9, 11, 13, 60, 61, 62] [] [] (by kernel_rfl) ?_; intro κ ξ hκ hξ
      try simp +decide only [go_sem, Nat.reduceMul, Nat.reduceAdd, Nat.reduceBEq, cond_false, beq_self_eq_true, decide_true, hww, c0, hk, hk1, hdoc, hb9, c1]
      repeat with_reducible refine And.intro (by first | assumption | omega | (simp; done) | (simp; omega) | (intro hg; simp +decide only [go_sem, hg]; done) | (intro hg; simp +decide only [go_sem, hg]; omega)) ?_
      intro b13 hb13
      try simp +decide only [go_sem, Nat.reduceMul, Nat.reduceAdd, Nat.reduceBEq, cond_false, beq_self_eq_true, decide_true, hww, c0, hk, hk1, hdoc, hb9, c1, hb13]
      repeat with_reducible refine And.intro (by first | assumption | omega | (simp; done) | (simp; omega) | (intro hg; simp +decide only [go_sem, hg]; done) | (intro hg; simp +decide only [go_sem, hg]; omega)) ?_
      refine hκ _ _ ?_; clear hκ hξ ξ κ
      refine sq ?_
      refine rg [7, 8, 9, 11, 14, 15, 16, 60, 61, 62] [] [] (by kernel_rfl) ?_; intro κ ξ hκ hξ
      try simp +decide only [go_sem, Nat.reduceMul, Nat.reduceAdd, Nat.reduceBEq, cond_false, beq_self_eq_true, decide_true, hww, c0, hk, hk1, hdoc, hb9, c1, hb13]
      repeat with_reducible refine And.intro (by first | assumption | omega | (simp; done) | (simp; omega) | (intro hg; simp +decide only [go_sem, hg]; done) | (intro hg; simp +decide only [go_sem, hg]; omega)) ?_
      refine callF (play_w _ _ _ _) ?_
      try simp +decide only [go_sem, Nat.reduceMul, Nat.reduceAdd, Nat.reduceBEq, cond_false, beq_self_eq_true, decide_true, hww, c0, hk, hk1, hdoc, hb9, c1, hb13]
      repeat with_reducible refine And.intro (by first | assumption | omega | (simp; done) | (simp; omega) | (intro hg; simp +decide only [go_sem, hg]; done) | (intro hg; simp +decide only [go_sem, hg]; omega)) ?_
      refine hκ _ _ ?_; clear hκ hξ ξ κ
      have hpl := play_plays hvm hca.1 hca.2
      obtain ⟨p, hp⟩ : ∃ p, p = playR m (caat cs j).1 (caat cs j).2 := ⟨_, rfl⟩
      rw [← hp] at hpl ⊢
      refine sq ?_
      refine rg [0, 7, 8, 9, 11, 15, 16, 60, 61, 62] [] [] (by kernel_rfl) ?_; intro κ ξ hκ hξ
      try simp +decide only [go_sem, Nat.reduceMul, Nat.reduceAdd, Nat.reduceBEq, cond_false, beq_self_eq_true, decide_true, hww, c0, hk, hk1, hdoc, hb9, c1, hb13]
      repeat with_reducible refine And.intro (by first | assumption | omega | (simp; done) | (simp; omega) | (intro hg; simp +decide only [go_sem, hg]; done) | (intro hg; simp +decide only [go_sem, hg]; omega)) ?_
      refine hκ _ _ ?_; clear hκ hξ ξ κ
      refine sq ?_
      refine sq ?_
      refine rg [0, 7, 8, 9, 11, 16, 60, 61, 62, 76] [] [] (by kernel_rfl) ?_; intro κ ξ hκ hξ
      try simp +decide only [go_sem, Nat.reduceMul, Nat.reduceAdd, Nat.reduceBEq, cond_false, beq_self_eq_true, decide_true, hww, c0, hk, hk1, hdoc, hb9, c1, hb13]
      repeat with_reducible refine And.intro (by first | assumption | omega | (simp; done) | (simp; omega) | (intro hg; simp +decide only [go_sem, hg]; done) | (intro hg; simp +decide only [go_sem, hg]; omega)) ?_
      refine hκ _ _ ?_; clear hκ hξ ξ κ
      refine cd (by rfl) (fun c2 => ?_) (fun c2 => ?_)
      · simp only [go_sem] at c2
        have hw1 : IntKind.wrap .i64 (h + 1) = h + 1 := w64 (by omega)
        refine rg [0, 7, 8, 9, 11, 16, 60, 61, 62] [] [] (by kernel_rfl) ?_; intro κ ξ hκ hξ
        try simp +decide only [go_sem, Nat.reduceMul, Nat.reduceAdd, Nat.reduceBEq, cond_false, beq_self_eq_true, decide_true, hww, c0, hk, hk1, hdoc, hb9, c1, hb13, c2, hw1]
        repeat with_reducible refine And.intro (by first | assumption | omega | (simp; done) | (simp; omega) | (intro hg; simp +decide only [go_sem, hg]; done) | (intro hg; simp +decide only [go_sem, hg]; omega)) ?_
        refine hκ _ _ ?_; clear hκ hξ ξ κ
        refine sq ?_
        refine sq ?_
        refine rg [0, 7, 8, 9, 11, 60, 61, 62, 81] [] [] (by kernel_rfl) ?_; intro κ ξ hκ hξ
        try simp +decide only [go_sem, Nat.reduceMul, Nat.reduceAdd, Nat.reduceBEq, cond_false, beq_self_eq_true, decide_true, hww, c0, hk, hk1, hdoc, hb9, c1, hb13, c2, hw1]
        repeat with_reducible refine And.intro (by first | assumption | omega | (simp; done) | (simp; omega) | (intro hg; simp +decide only [go_sem, hg]; done) | (intro hg; simp +decide only [go_sem, hg]; omega)) ?_
        refine hκ _ _ ?_; clear hκ hξ ξ κ
        refine cd (by rfl) (fun c3 => ?_) (fun c3 => ?_)
        · simp only [go_sem] at c3
          exfalso
          have := hpl.some.1
          omega
        · simp only [go_sem] at c3
          refine sk ?_
          refine sq ?_
          refine sq ?_
          refine rg [0, 7, 8, 9, 11, 60, 61, 62, 85] [] [] (by kernel_rfl) ?_; intro κ ξ hκ hξ
          try simp +decide only [go_sem, Nat.reduceMul, Nat.reduceAdd, Nat.reduceBEq, cond_false, beq_self_eq_true, decide_true, hww, c0, hk, hk1, hdoc, hb9, c1, hb13, c2, hw1, c3]
          repeat with_reducible refine And.intro (by first | assumption | omega | (simp; done) | (simp; omega) | (intro hg; simp +decide only [go_sem, hg]; done) | (intro hg; simp +decide only [go_sem, hg]; omega)) ?_
          refine hκ _ _ ?_; clear hκ hξ ξ κ
          refine cd (by rfl) (fun c4 => ?_) (fun c4 => ?_)
          · simp only [go_sem] at c4
            refine sq ?_
            refine rg [6] [] [] (by kernel_rfl) ?_; intro κ ξ hκ hξ
            try simp +decide only [go_sem, Nat.reduceMul, Nat.reduceAdd, Nat.reduceBEq, cond_false, beq_self_eq_true, decide_true, hww, c0, hk, hk1, hdoc, hb9, c1, hb13, c2, hw1, c3, c4]
            repeat with_reducible refine And.intro (by first | assumption | omega | (simp; done) | (simp; omega) | (intro hg; simp +decide only [go_sem, hg]; done) | (intro hg; simp +decide only [go_sem, hg]; omega)) ?_
            refine hκ _ _ ?_; clear hκ hξ ξ κ
            refine rt ?_
            refine retE ?_
            simp +decide only [go_sem, resD, resV, beq_self_eq_true, decide_true, hww, c0, hk, hk1, hdoc, hb9, c1, hb13, c2, hw1, c3, c4]
            
          · simp only [go_sem] at c4
            have hne : hvL p.1 (veat l k).num ≠ 0 := by
              rw [hpl.holds _ (by omega)]
              split <;> split <;> omega
            obtain ⟨x2, hx2, hn2, hd2⟩ := hpl.docs x hx1 (by rw [hxn]; exact hne)
            have hdp : docR p.1 (veat l k).num = ((veat l k).doc, 0) := by
              have := doc_of hpl.ver hx2
              rwa [hn2, hd2, hxn, hxd] at this
            refine sk ?_
            refine sq ?_
            refine rgz [(17, [])] [0, 7, 8, 9, 11, 17, 18, 60, 61, 62] [] [] (by kernel_rfl) ?_; intro κ ξ hκ hξ
            try simp +decide only [go_sem, Nat.reduceMul, Nat.reduceAdd, Nat.reduceBEq, cond_false, beq_self_eq_true, decide_true, hww, c0, hk, hk1, hdoc, hb9, c1, hb13, c2, hw1, c3, c4, hdp]
            repeat with_reducible refine And.intro (by first | assumption | omega | (simp; done) | (simp; omega) | (intro hg; simp +decide only [go_sem, hg]; done) | (intro hg; simp +decide only [go_sem, hg]; omega)) ?_
            refine callF (vdoc_w _ _ _) ?_
            try simp +decide only [go_sem, Nat.reduceMul, Nat.reduceAdd, Nat.reduceBEq, cond_false, beq_self_eq_true, decide_true, hww, c0, hk, hk1, hdoc, hb9, c1, hb13, c2, hw1, c3, c4, hdp]
            repeat with_reducible refine And.intro (by first | assumption | omega | (simp; done) | (simp; omega) | (intro hg; simp +decide only [go_sem, hg]; done) | (intro hg; simp +decide only [go_sem, hg]; omega)) ?_
            intro b17 hb17
            try simp +decide only [go_sem, Nat.reduceMul, Nat.reduceAdd, Nat.reduceBEq, cond_false, beq_self_eq_true, decide_true, hww, c0, hk, hk1, hdoc, hb9, c1, hb13, c2, hw1, c3, c4, hdp, hb17]
            repeat with_reducible refine And.intro (by first | assumption | omega | (simp; done) | (simp; omega) | (intro hg; simp +decide only [go_sem, hg]; done) | (intro hg; simp +decide only [go_sem, hg]; omega)) ?_
            refine hκ _ _ ?_; clear hκ hξ ξ κ
            refine sq ?_
            refine rg [0, 7, 8, 9, 11, 60, 61, 62, 100] [] [(2, 95)] (by kernel_rfl) ?_; intro κ ξ hκ hξ
            try simp +decide only [go_sem, Nat.reduceMul, Nat.reduceAdd, Nat.reduceBEq, cond_false, beq_self_eq_true, decide_true, hww, c0, hk, hk1, hdoc, hb9, c1, hb13, c2, hw1, c3, c4, hdp, hb17]
            repeat with_reducible refine And.intro (by first | assumption | omega | (simp; done) | (simp; omega) | (intro hg; simp +decide only [go_sem, hg]; done) | (intro hg; simp +decide only [go_sem, hg]; omega)) ?_
            refine vo_gc ?_; simp +decide only [go_sem, beq_self_eq_true, decide_true, hww, c0, hk, hk1, hdoc, hb9, c1, hb13, c2, hw1, c3, c4, hdp, hb17]; refine gcallF (fun hg => ⟨by first | rfl | (simp +decide only [go_sem, hg, beq_self_eq_true, decide_true, hww, c0, hk, hk1, hdoc, hb9, c1, hb13, c2, hw1, c3, c4, hdp, hb17]; done) | exact hg | simpa using hg, samed_w _⟩) ?_
            try simp +decide only [go_sem, Nat.reduceMul, Nat.reduceAdd, Nat.reduceBEq, cond_false, beq_self_eq_true, decide_true, hww, c0, hk, hk1, hdoc, hb9, c1, hb13, c2, hw1, c3, c4, hdp, hb17]
            repeat with_reducible refine And.intro (by first | assumption | omega | (simp; done) | (simp; omega) | (intro hg; simp +decide only [go_sem, hg]; done) | (intro hg; simp +decide only [go_sem, hg]; omega)) ?_
            refine hκ _ _ ?_; clear hκ hξ ξ κ
            refine cdf (by rfl) ?_
            refine sk ?_
            refine rg [0, 7, 8, 9, 11, 60, 61, 62] [] [] (by kernel_rfl) ?_; intro κ ξ hκ hξ
            try simp +decide only [go_sem, Nat.reduceMul, Nat.reduceAdd, Nat.reduceBEq, cond_false, beq_self_eq_true, decide_true, hww, c0, hk, hk1, hdoc, hb9, c1, hb13, c2, hw1, c3, c4, hdp, hb17]
            repeat with_reducible refine And.intro (by first | assumption | omega | (simp; done) | (simp; omega) | (intro hg; simp +decide only [go_sem, hg]; done) | (intro hg; simp +decide only [go_sem, hg]; omega)) ?_
            refine hκ _ _ ?_; clear hκ hξ ξ κ
            refine ⟨(p.1, h + 1, j + 1), ⟨⟨by simp only; omega, hpl.ver, ?_, x2, hx2, hn2.trans hxn, hd2.trans hxd⟩, by simp only; omega⟩, EnvLe.of_eq (by rw [w64 (n := (j : Int) + 1) (by omega)]; rfl), List.nil_sublist _⟩
            rw [hpl.holds _ (by omega)]
            simp only
            split <;> split <;> omega
      · simp only [go_sem] at c2
        refine sk ?_
        refine sq ?_
        refine sq ?_
        refine rg [0, 7, 8, 9, 11, 60, 61, 62, 81] [] [] (by kernel_rfl) ?_; intro κ ξ hκ hξ
        try simp +decide only [go_sem, Nat.reduceMul, Nat.reduceAdd, Nat.reduceBEq, cond_false, beq_self_eq_true, decide_true, hww, c0, hk, hk1, hdoc, hb9, c1, hb13, c2]
        repeat with_reducible refine And.intro (by first | assumption | omega | (simp; done) | (simp; omega) | (intro hg; simp +decide only [go_sem, hg]; done) | (intro hg; simp +decide only [go_sem, hg]; omega)) ?_
        refine hκ _ _ ?_; clear hκ hξ ξ κ
        refine cd (by rfl) (fun c5 => ?_) (fun c5 => ?_)
        · simp only [go_sem] at c5
          have hw2 : IntKind.wrap .i64 (h - 1) = h - 1 := w64 (by omega)
          refine rg [0, 7, 8, 9, 11, 60, 61, 62] [] [] (by kernel_rfl) ?_; intro κ ξ hκ hξ
          try simp +decide only [go_sem, Nat.reduceMul, Nat.reduceAdd, Nat.reduceBEq, cond_false, beq_self_eq_true, decide_true, hww, c0, hk, hk1, hdoc, hb9, c1, hb13, c2, c5, hw2]
          repeat with_reducible refine And.intro (by first | assumption | omega | (simp; done) | (simp; omega) | (intro hg; simp +decide only [go_sem, hg]; done) | (intro hg; simp +decide only [go_sem, hg]; omega)) ?_
          refine hκ _ _ ?_; clear hκ hξ ξ κ
          refine sq ?_
          refine sq ?_
          refine rg [0, 7, 8, 9, 11, 60, 61, 62, 85] [] [] (by kernel_rfl) ?_; intro κ ξ hκ hξ
          try simp +decide only [go_sem, Nat.reduceMul, Nat.reduceAdd, Nat.reduceBEq, cond_false, beq_self_eq_true, decide_true, hww, c0, hk, hk1, hdoc, hb9, c1, hb13, c2, c5, hw2]
          repeat with_reducible refine And.intro (by first | assumption | omega | (simp; done) | (simp; omega) | (intro hg; simp +decide only [go_sem, hg]; done) | (intro hg; simp +decide only [go_sem, hg]; omega)) ?_
          refine hκ _ _ ?_; clear hκ hξ ξ κ
          refine cd (by rfl) (fun c6 => ?_) (fun c6 => ?_)
          · simp only [go_sem] at c6
            refine sq ?_
            refine rg [6] [] [] (by kernel_rfl) ?_; intro κ ξ hκ hξ
            try simp +decide only [go_sem, Nat.reduceMul, Nat.reduceAdd, Nat.reduceBEq, cond_false, beq_self_eq_true, decide_true, hww, c0, hk, hk1, hdoc, hb9, c1, hb13, c2, c5, hw2, c6]
            repeat with_reducible refine And.intro (by first | assumption | omega | (simp; done) | (simp; omega) | (intro hg; simp +decide only [go_sem, hg]; done) | (intro hg; simp +decide only [go_sem, hg]; omega)) ?_
            refine hκ _ _ ?_; clear hκ hξ ξ κ
            refine rt ?_
            refine retE ?_
            simp +decide only [go_sem, resD, resV, beq_self_eq_true, decide_true, hww, c0, hk, hk1, hdoc, hb9, c1, hb13, c2, c5, hw2, c6]
            
          · simp only [go_sem] at c6
            have hne : hvL p.1 (veat l k).num ≠ 0 := by
              rw [hpl.holds _ (by omega)]
              split <;> split <;> omega
            obtain ⟨x2, hx2, hn2, hd2⟩ := hpl.docs x hx1 (by rw [hxn]; exact hne)
            have hdp : docR p.1 (veat l k).num = ((veat l k).doc, 0) := by
              have := doc_of hpl.ver hx2
              rwa [hn2, hd2, hxn, hxd] at this
            refine sk ?_
            refine sq ?_
            refine rgz [(17, [])] [0, 7, 8, 9, 11, 17, 18, 60, 61, 62] [] [] (by kernel_rfl) ?_; intro κ ξ hκ hξ
            try simp +decide only [go_sem, Nat.reduceMul, Nat.reduceAdd, Nat.reduceBEq, cond_false, beq_self_eq_true, decide_true, hww, c0, hk, hk1, hdoc, hb9, c1, hb13, c2, c5, hw2, c6, hdp]
            repeat with_reducible refine And.intro (by first | assumption | omega | (simp; done) | (simp; omega) | (intro hg; simp +decide only [go_sem, hg]; done) | (intro hg; simp +decide only [go_sem, hg]; omega)) ?_
            refine callF (vdoc_w _ _ _) ?_
            try simp +decide only [go_sem, Nat.reduceMul, Nat.reduceAdd, Nat.reduceBEq, cond_false, beq_self_eq_true, decide_true, hww, c0, hk, hk1, hdoc, hb9, c1, hb13, c2, c5, hw2, c6, hdp]
            repeat with_reducible refine And.intro (by first | assumption | omega | (simp; done) | (simp; omega) | (intro hg; simp +decide only [go_sem, hg]; done) | (intro hg; simp +decide only [go_sem, hg]; omega)) ?_
            intro b17 hb17
            try simp +decide only [go_sem, Nat.reduceMul, Nat.reduceAdd, Nat.reduceBEq, cond_false, beq_self_eq_true, decide_true, hww, c0, hk, hk1, hdoc, hb9, c1, hb13, c2, c5, hw2, c6, hdp, hb17]
            repeat with_reducible refine And.intro (by first | assumption | omega | (simp; done) | (simp; omega) | (intro hg; simp +decide only [go_sem, hg]; done) | (intro hg; simp +decide only [go_sem, hg]; omega)) ?_
            refine hκ _ _ ?_; clear hκ hξ ξ κ
            refine sq ?_
            refine rg [0, 7, 8, 9, 11, 60, 61, 62, 100] [] [(2, 95)] (by kernel_rfl) ?_; intro κ ξ hκ hξ
            try simp +decide only [go_sem, Nat.reduceMul, Nat.reduceAdd, Nat.reduceBEq, cond_false, beq_self_eq_true, decide_true, hww, c0, hk, hk1, hdoc, hb9, c1, hb13, c2, c5, hw2, c6, hdp, hb17]
            repeat with_reducible refine And.intro (by first | assumption | omega | (simp; done) | (simp; omega) | (intro hg; simp +decide only [go_sem, hg]; done) | (intro hg; simp +decide only [go_sem, hg]; omega)) ?_
            refine vo_gc ?_; simp +decide only [go_sem, beq_self_eq_true, decide_true, hww, c0, hk, hk1, hdoc, hb9, c1, hb13, c2, c5, hw2, c6, hdp, hb17]; refine gcallF (fun hg => ⟨by first | rfl | (simp +decide only [go_sem, hg, beq_self_eq_true, decide_true, hww, c0, hk, hk1, hdoc, hb9, c1, hb13, c2, c5, hw2, c6, hdp, hb17]; done) | exact hg | simpa using hg, samed_w _⟩) ?_
            try simp +decide only [go_sem, Nat.reduceMul, Nat.reduceAdd, Nat.reduceBEq, cond_false, beq_self_eq_true, decide_true, hww, c0, hk, hk1, hdoc, hb9, c1, hb13, c2, c5, hw2, c6, hdp, hb17]
            repeat with_reducible refine And.intro (by first | assumption | omega | (simp; done) | (simp; omega) | (intro hg; simp +decide only [go_sem, hg]; done) | (intro hg; simp +decide only [go_sem, hg]; omega)) ?_
            refine hκ _ _ ?_; clear hκ hξ ξ κ
            refine cdf (by rfl) ?_
            refine sk ?_
            refine rg [0, 7, 8, 9, 11, 60, 61, 62] [] [] (by kernel_rfl) ?_; intro κ ξ hκ hξ
            try simp +decide only [go_sem, Nat.reduceMul, Nat.reduceAdd, Nat.reduceBEq, cond_false, beq_self_eq_true, decide_true, hww, c0, hk, hk1, hdoc, hb9, c1, hb13, c2, c5, hw2, c6, hdp, hb17]
            repeat with_reducible refine And.intro (by first | assumption | omega | (simp; done) | (simp; omega) | (intro hg; simp +decide only [go_sem, hg]; done) | (intro hg; simp +decide only [go_sem, hg]; omega)) ?_
            refine hκ _ _ ?_; clear hκ hξ ξ κ
            refine ⟨(p.1, h - 1, j + 1), ⟨⟨by simp only; omega, hpl.ver, ?_, x2, hx2, hn2.trans hxn, hd2.trans hxd⟩, by simp only; omega⟩, EnvLe.of_eq (by rw [w64 (n := (j : Int) + 1) (by omega)]; rfl), List.nil_sublist _⟩
            rw [hpl.holds _ (by omega)]
            simp only
            split <;> split <;> omega
        · simp only [go_sem] at c5
          refine sk ?_
          refine sq ?_
          refine sq ?_
          refine rg [0, 7, 8, 9, 11, 60, 61, 62, 85] [] [] (by kernel_rfl) ?_; intro κ ξ hκ hξ
          try simp +decide only [go_sem, Nat.reduceMul, Nat.reduceAdd, Nat.reduceBEq, cond_false, beq_self_eq_true, decide_true, hww, c0, hk, hk1, hdoc, hb9, c1, hb13, c2, c5]
          repeat with_reducible refine And.intro (by first | assumption | omega | (simp; done) | (simp; omega) | (intro hg; simp +decide only [go_sem, hg]; done) | (intro hg; simp +decide only [go_sem, hg]; omega)) ?_
          refine hκ _ _ ?_; clear hκ hξ ξ κ
          refine cd (by rfl) (fun c7 => ?_) (fun c7 => ?_)
          · simp only [go_sem] at c7
            refine sq ?_
            refine rg [6] [] [] (by kernel_rfl) ?_; intro κ ξ hκ hξ
            try simp +decide only [go_sem, Nat.reduceMul, Nat.reduceAdd, Nat.reduceBEq, cond_false, beq_self_eq_true, decide_true, hww, c0, hk, hk1, hdoc, hb9, c1, hb13, c2, c5, c7]
            repeat with_reducible refine And.intro (by first | assumption | omega | (simp; done) | (simp; omega) | (intro hg; simp +decide only [go_sem, hg]; done) | (intro hg; simp +decide only [go_sem, hg]; omega)) ?_
            refine hκ _ _ ?_; clear hκ hξ ξ κ
            refine rt ?_
            refine retE ?_
            simp +decide only [go_sem, resD, resV, beq_self_eq_true, decide_true, hww, c0, hk, hk1, hdoc, hb9, c1, hb13, c2, c5, c7]
            
          · simp only [go_sem] at c7
            have hne : hvL p.1 (veat l k).num ≠ 0 := by
              rw [hpl.holds _ (by omega)]
              split <;> split <;> omega
            obtain ⟨x2, hx2, hn2, hd2⟩ := hpl.docs x hx1 (by rw [hxn]; exact hne)
            have hdp : docR p.1 (veat l k).num = ((veat l k).doc, 0) := by
              have := doc_of hpl.ver hx2
              rwa [hn2, hd2, hxn, hxd] at this
            refine sk ?_
            refine sq ?_
            refine rgz [(17, [])] [0, 7, 8, 9, 11, 17, 18, 60, 61, 62] [] [] (by kernel_rfl) ?_; intro κ ξ hκ hξ
            try simp +decide only [go_sem, Nat.reduceMul, Nat.reduceAdd, Nat.reduceBEq, cond_false, beq_self_eq_true, decide_true, hww, c0, hk, hk1, hdoc, hb9, c1, hb13, c2, c5, c7, hdp]
            repeat with_reducible refine And.intro (by first | assumption | omega | (simp; done) | (simp; omega) | (intro hg; simp +decide only [go_sem, hg]; done) | (intro hg; simp +decide only [go_sem, hg]; omega)) ?_
            refine callF (vdoc_w _ _ _) ?_
            try simp +decide only [go_sem, Nat.reduceMul, Nat.reduceAdd, Nat.reduceBEq, cond_false, beq_self_eq_true, decide_true, hww, c0, hk, hk1, hdoc, hb9, c1, hb13, c2, c5, c7, hdp]
            repeat with_reducible refine And.intro (by first | assumption | omega | (simp; done) | (simp; omega) | (intro hg; simp +decide only [go_sem, hg]; done) | (intro hg; simp +decide only [go_sem, hg]; omega)) ?_
            intro b17 hb17
            try simp +decide only [go_sem, Nat.reduceMul, Nat.reduceAdd, Nat.reduceBEq, cond_false, beq_self_eq_true, decide_true, hww, c0, hk, hk1, hdoc, hb9, c1, hb13, c2, c5, c7, hdp, hb17]
            repeat with_reducible refine And.intro (by first | assumption | omega | (simp; done) | (simp; omega) | (intro hg; simp +decide only [go_sem, hg]; done) | (intro hg; simp +decide only [go_sem, hg]; omega)) ?_
            refine hκ _ _ ?_; clear hκ hξ ξ κ
            refine sq ?_
            refine rg [0, 7, 8, 9, 11, 60, 61, 62, 100] [] [(2, 95)] (by kernel_rfl) ?_; intro κ ξ hκ hξ
            try simp +decide only [go_sem, Nat.reduceMul, Nat.reduceAdd, Nat.reduceBEq, cond_false, beq_self_eq_true, decide_true, hww, c0, hk, hk1, hdoc, hb9, c1, hb13, c2, c5, c7, hdp, hb17]
            repeat with_reducible refine And.intro (by first | assumption | omega | (simp; done) | (simp; omega) | (intro hg; simp +decide only [go_sem, hg]; done) | (intro hg; simp +decide only [go_sem, hg]; omega)) ?_
            refine vo_gc ?_; simp +decide only [go_sem, beq_self_eq_true, decide_true, hww, c0, hk, hk1, hdoc, hb9, c1, hb13, c2, c5, c7, hdp, hb17]; refine gcallF (fun hg => ⟨by first | rfl | (simp +decide only [go_sem, hg, beq_self_eq_true, decide_true, hww, c0, hk, hk1, hdoc, hb9, c1, hb13, c2, c5, c7, hdp, hb17]; done) | exact hg | simpa using hg, samed_w _⟩) ?_
            try simp +decide only [go_sem, Nat.reduceMul, Nat.reduceAdd, Nat.reduceBEq, cond_false, beq_self_eq_true, decide_true, hww, c0, hk, hk1, hdoc, hb9, c1, hb13, c2, c5, c7, hdp, hb17]
            repeat with_reducible refine And.intro (by first | assumption | omega | (simp; done) | (simp; omega) | (intro hg; simp +decide only [go_sem, hg]; done) | (intro hg; simp +decide only [go_sem, hg]; omega)) ?_
            refine hκ _ _ ?_; clear hκ hξ ξ κ
            refine cdf (by rfl) ?_
            refine sk ?_
            refine rg [0, 7, 8, 9, 11, 60, 61, 62] [] [] (by kernel_rfl) ?_; intro κ ξ hκ hξ
            try simp +decide only [go_sem, Nat.reduceMul, Nat.reduceAdd, Nat.reduceBEq, cond_false, beq_self_eq_true, decide_true, hww, c0, hk, hk1, hdoc, hb9, c1, hb13, c2, c5, c7, hdp, hb17]
            repeat with_reducible refine And.intro (by first | assumption | omega | (simp; done) | (simp; omega) | (intro hg; simp +decide only [go_sem, hg]; done) | (intro hg; simp +decide only [go_sem, hg]; omega)) ?_
            refine hκ _ _ ?_; clear hκ hξ ξ κ
            refine ⟨(p.1, h, j + 1), ⟨⟨by simp only; omega, hpl.ver, ?_, x2, hx2, hn2.trans hxn, hd2.trans hxd⟩, by simp only; omega⟩, EnvLe.of_eq (by rw [w64 (n := (j : Int) + 1) (by omega)]; rfl), List.nil_sublist _⟩
            rw [hpl.holds _ (by omega)]
            simp only
            split <;> split <;> omega
    · try simp only [go_sem] at c1
      refine ex ?_
      refine sq ?_
      refine rg [6] [] [] (by kernel_rfl) ?_; intro κ ξ hκ hξ
      try simp +decide only [go_sem, Nat.reduceMul, Nat.reduceAdd, Nat.reduceBEq, cond_false, beq_self_eq_true, decide_true, hww, c0, hk, hk1, hdoc, hb9, c1]
      repeat with_reducible refine And.intro (by first | assumption | omega | (simp; done) | (simp; omega) | (intro hg; simp +decide only [go_sem, hg]; done) | (intro hg; simp +decide only [go_sem, hg]; omega)) ?_
      refine hκ _ _ ?_; clear hκ hξ ξ κ
      refine rt ?_
      refine retE ?_
      simp +decide only [go_sem, resD, resV, beq_self_eq_true, decide_true, hww, c0, hk, hk1, hdoc, hb9, c1]
      

end Go.Proofs.YtjjkgeeafjagkaaGreat

/- The walk of versions' Push. Printed by a tool of our own. -/
import Derived.Test.YtjjkgeeafjagkaaGreatJLa
import Derived.Test.YtjjkgeeafjagkaaGreatWk
import Derived.Test.YtjjkgeeafjagkaaGreatWh
namespace Go.Proofs.YtjjkgeeafjagkaaGreat
open Go Go.RowKit
set_option linter.unusedSimpArgs false
set_option linter.unusedVariables false
set_option maxHeartbeats 4000000
set_option maxRecDepth 100000
attribute [local go_sem] List.length_map rowAt_n nrow rowAt_t trow rowAt_i irow
attribute [local go_sem] rowAt_e rowAt_tm rowAt_dc rowAt_ru tmrow dcrow rurow
attribute [local go_sem] rowAt_br rowAt_s rowAt_fo rowAt_ve rowAt_g rowAt_k grow krow srow brrow forow dorow verow
theorem push_w (l : List Ve) (t : Tok) (d : Do) : PCall Tryz.prog (.func 11) [.sl 6 (l.map verow) t, .ag (dorow d)] (.tup [.sl 6 ((pushR l d).1.map verow) .no, .int .i64 (pushR l d).2]) := by
  refine PCall.ok fun hok => ?_
  simp only [okAll, D.ok, okRows, and_true, true_and, lim_eq, inR_i64', inR_i32', inR_u8', inR_u16', inR_u64'] at hok
  obtain ⟨⟨hl, hr⟩, hd⟩ := hok; rw [List.length_map] at hl
  refine PCall.le ?_
  refine fn_ Tryz.func11 (by rfl) (by rfl) (rs := [.tmp 4, .tmp 5]) (by rfl) (by simp [Tryz.f11]) ?_
  refine sq ?_
  refine rg [0, 3] [3] [] (by kernel_rfl) ?_; intro κ ξ hκ hξ
  try simp +decide only [go_sem, Nat.reduceMul, Nat.reduceAdd, Nat.reduceBEq, cond_false, List.take_length]
  repeat with_reducible refine And.intro (by first | assumption | omega | (simp; done) | (simp; omega) | (intro hg; simp +decide only [go_sem, hg]; done) | (intro hg; simp +decide only [go_sem, hg]; omega)) ?_
  refine hκ _ _ ?_; clear hκ hξ ξ κ
  refine sq ?_
  refine sq ?_
  refine rg [0, 3, 16] [] [(3, 12)] (by kernel_rfl) ?_; intro κ ξ hκ hξ
  try simp +decide only [go_sem, Nat.reduceMul, Nat.reduceAdd, Nat.reduceBEq, cond_false, List.take_length]
  repeat with_reducible refine And.intro (by first | assumption | omega | (simp; done) | (simp; omega) | (intro hg; simp +decide only [go_sem, hg]; done) | (intro hg; simp +decide only [go_sem, hg]; omega)) ?_
  refine callF (ver_w _ _) ?_
  try simp +decide only [go_sem, Nat.reduceMul, Nat.reduceAdd, Nat.reduceBEq, cond_false, List.take_length]
  repeat with_reducible refine And.intro (by first | assumption | omega | (simp; done) | (simp; omega) | (intro hg; simp +decide only [go_sem, hg]; done) | (intro hg; simp +decide only [go_sem, hg]; omega)) ?_
  refine vo_gc ?_; simp +decide only [go_sem, List.take_length]; refine gcallF (fun hg => ⟨by first | rfl | (simp +decide only [go_sem, hg, List.take_length]; done) | exact hg | simpa using hg, cov_w _⟩) ?_
  try simp +decide only [go_sem, Nat.reduceMul, Nat.reduceAdd, Nat.reduceBEq, cond_false, List.take_length]
  repeat with_reducible refine And.intro (by first | assumption | omega | (simp; done) | (simp; omega) | (intro hg; simp +decide only [go_sem, hg]; done) | (intro hg; simp +decide only [go_sem, hg]; omega)) ?_
  refine hκ _ _ ?_; clear hκ hξ ξ κ
  refine cd (by rfl) (fun c0 => ?_) (fun c0 => ?_)
  · simp only [go_sem] at c0
    refine sq ?_
    refine rg [4, 5] [] [] (by kernel_rfl) ?_; intro κ ξ hκ hξ
    try simp +decide only [go_sem, Nat.reduceMul, Nat.reduceAdd, Nat.reduceBEq, cond_false, List.take_length, c0]
    repeat with_reducible refine And.intro (by first | assumption | omega | (simp; done) | (simp; omega) | (intro hg; simp +decide only [go_sem, hg]; done) | (intro hg; simp +decide only [go_sem, hg]; omega)) ?_
    refine hκ _ _ ?_; clear hκ hξ ξ κ
    refine rt ?_
    refine retL ?_
    simp +decide only [go_sem, resD, resV, List.take_length, c0]
    have e : pushR l d = ([], 1) := by
      unfold pushR
      rw [if_pos (by rintro ⟨a, b⟩; rcases c0 with c0 | c0 <;> simp_all)]
    rw [e]
    exact DLe.tup ⟨DLe.nil 6 0 .nil, DLe.refl _, trivial⟩
  · simp only [go_sem] at c0
    have hv := c0.1
    have hdb := c0.2
    have hl5 := (ver_true.1 hv).1
    refine sk ?_
    refine sq ?_
    refine rg [0, 3, 6] [] [] (by kernel_rfl) ?_; intro κ ξ hκ hξ
    try simp +decide only [go_sem, Nat.reduceMul, Nat.reduceAdd, Nat.reduceBEq, cond_false, List.take_length, c0]
    repeat with_reducible refine And.intro (by first | assumption | omega | (simp; done) | (simp; omega) | (intro hg; simp +decide only [go_sem, hg]; done) | (intro hg; simp +decide only [go_sem, hg]; omega)) ?_
    refine hκ _ _ ?_; clear hκ hξ ξ κ
    refine sq ?_
    refine rg [0, 3, 6, 7] [] [] (by kernel_rfl) ?_; intro κ ξ hκ hξ
    try simp +decide only [go_sem, Nat.reduceMul, Nat.reduceAdd, Nat.reduceBEq, cond_false, List.take_length, c0]
    repeat with_reducible refine And.intro (by first | assumption | omega | (simp; done) | (simp; omega) | (intro hg; simp +decide only [go_sem, hg]; done) | (intro hg; simp +decide only [go_sem, hg]; omega)) ?_
    refine hκ _ _ ?_; clear hκ hξ ξ κ
    refine sq ?_
    refine sq ?_
    refine rg [0, 3, 6, 7, 8] [] [] (by kernel_rfl) ?_; intro κ ξ hκ hξ
    try simp +decide only [go_sem, Nat.reduceMul, Nat.reduceAdd, Nat.reduceBEq, cond_false, List.take_length, c0]
    repeat with_reducible refine And.intro (by first | assumption | omega | (simp; done) | (simp; omega) | (intro hg; simp +decide only [go_sem, hg]; done) | (intro hg; simp +decide only [go_sem, hg]; omega)) ?_
    refine hκ _ _ ?_; clear hκ hξ ξ κ
    refine sq ?_
    refine rg [0, 3, 6, 7, 8, 21] [] [] (by kernel_rfl) ?_; intro κ ξ hκ hξ
    try simp +decide only [go_sem, Nat.reduceMul, Nat.reduceAdd, Nat.reduceBEq, cond_false, List.take_length, c0]
    repeat with_reducible refine And.intro (by first | assumption | omega | (simp; done) | (simp; omega) | (intro hg; simp +decide only [go_sem, hg]; done) | (intro hg; simp +decide only [go_sem, hg]; omega)) ?_
    refine hκ _ _ ?_; clear hκ hξ ξ κ
    refine cd (by rfl) (fun c1 => ?_) (fun c1 => ?_)
    · simp only [go_sem] at c1
      obtain ⟨k, hk⟩ : ∃ k : Nat, (l.length : Int) - 1 = (k : Int) := ⟨l.length - 1, by omega⟩
      have hkN : l.length - 1 = k := by omega
      have hkl : (k : Int) < l.length := by omega
      have hvk := (vok_true.1 ((ver_true.1 hv).2 k (by omega))).1
      have hlw : IntKind.wrap .i64 (k : Int) = k := w64 (by omega)
      have hnw : IntKind.wrap .i64 ((veat l k).num + 1) = (veat l k).num + 1 := w64 (by omega)
      have hnx : nextN l = (veat l k).num + 1 := by unfold nextN; rw [if_pos (by omega), hkN]
      refine sq ?_
      refine rg [0, 3, 6, 7, 8] [] [] (by kernel_rfl) ?_; intro κ ξ hκ hξ
      try simp +decide only [go_sem, Nat.reduceMul, Nat.reduceAdd, Nat.reduceBEq, cond_false, List.take_length, c0, c1, hk, hkl, hlw, hnw]
      repeat with_reducible refine And.intro (by first | assumption | omega | (simp; done) | (simp; omega) | (intro hg; simp +decide only [go_sem, hg]; done) | (intro hg; simp +decide only [go_sem, hg]; omega)) ?_
      refine hκ _ _ ?_; clear hκ hξ ξ κ
      refine sq ?_
      refine rg [0, 3, 6, 7, 8, 35] [] [] (by kernel_rfl) ?_; intro κ ξ hκ hξ
      try simp +decide only [go_sem, Nat.reduceMul, Nat.reduceAdd, Nat.reduceBEq, cond_false, List.take_length, c0, c1, hk, hkl, hlw, hnw]
      repeat with_reducible refine And.intro (by first | assumption | omega | (simp; done) | (simp; omega) | (intro hg; simp +decide only [go_sem, hg]; done) | (intro hg; simp +decide only [go_sem, hg]; omega)) ?_
      refine hκ _ _ ?_; clear hκ hξ ξ κ
      refine cd (by rfl) (fun c2 => ?_) (fun c2 => ?_)
      · simp only [go_sem] at c2
        have hst : stayL l = l.take k := by unfold stayL; rw [hkN, if_pos ⟨by omega, c2⟩]
        refine rg [3, 6, 7] [] [] (by kernel_rfl) ?_; intro κ ξ hκ hξ
        try simp +decide only [go_sem, Nat.reduceMul, Nat.reduceAdd, Nat.reduceBEq, cond_false, List.take_length, c0, c1, hk, hkl, hlw, hnw, c2]
        repeat with_reducible refine And.intro (by first | assumption | omega | (simp; done) | (simp; omega) | (intro hg; simp +decide only [go_sem, hg]; done) | (intro hg; simp +decide only [go_sem, hg]; omega)) ?_
        refine hκ _ _ ?_; clear hκ hξ ξ κ
        refine sq ?_
        refine sq ?_
        refine rg [3, 6, 7, 46] [] [(3, 43)] (by kernel_rfl) ?_; intro κ ξ hκ hξ
        try simp +decide only [go_sem, Nat.reduceMul, Nat.reduceAdd, Nat.reduceBEq, cond_false, List.take_length, c0, c1, hk, hkl, hlw, hnw, c2]
        repeat with_reducible refine And.intro (by first | assumption | omega | (simp; done) | (simp; omega) | (intro hg; simp +decide only [go_sem, hg]; done) | (intro hg; simp +decide only [go_sem, hg]; omega)) ?_
        refine hκ _ _ ?_; clear hκ hξ ξ κ
        refine cd (by rfl) (fun c3 => ?_) (fun c3 => ?_)
        · try simp only [go_sem] at c3
          refine sq ?_
          refine rg [4, 5] [] [] (by kernel_rfl) ?_; intro κ ξ hκ hξ
          try simp +decide only [go_sem, Nat.reduceMul, Nat.reduceAdd, Nat.reduceBEq, cond_false, List.take_length, c0, c1, hk, hkl, hlw, hnw, c2, c3]
          repeat with_reducible refine And.intro (by first | assumption | omega | (simp; done) | (simp; omega) | (intro hg; simp +decide only [go_sem, hg]; done) | (intro hg; simp +decide only [go_sem, hg]; omega)) ?_
          refine hκ _ _ ?_; clear hκ hξ ξ κ
          refine rt ?_
          refine retL ?_
          simp +decide only [go_sem, resD, resV, List.take_length, c0, c1, hk, hkl, hlw, hnw, c2, c3]
          have e : pushR l d = ([], 2) := by
            unfold pushR
            rw [if_neg (fun h => h ⟨hv, hdb⟩), hst, hnx, if_pos (by omega)]
          rw [e]
          exact DLe.tup ⟨DLe.nil 6 0 .nil, DLe.refl _, trivial⟩
        · try simp only [go_sem] at c3
          refine sk ?_
          refine sq ?_
          refine rgd [4, 5] [] [] [] (by kernel_rfl) (by kernel_rfl) ?_; intro κ ξ hκ hξ
          try simp +decide only [go_sem, Nat.reduceMul, Nat.reduceAdd, Nat.reduceBEq, cond_false, List.take_length, c0, c1, hk, hkl, hlw, hnw, c2, c3]
          repeat with_reducible refine And.intro (by first | assumption | omega | (simp; done) | (simp; omega) | (intro hg; simp +decide only [go_sem, hg]; done) | (intro hg; simp +decide only [go_sem, hg]; omega)) ?_
          refine napp_full rfl rfl (by simp +decide only [go_sem, Option.isSome_some]) tf86 tf87 tf179 (by (refine ⟨⟨rfl, by decide, by decide⟩, by simp +decide only [go_sem], by simp, ?_⟩; simp [capB]; omega)) ?_; intro b57 c57 hb57
          try simp +decide only [go_sem, Nat.reduceMul, Nat.reduceAdd, Nat.reduceBEq, cond_false, List.take_length, c0, c1, hk, hkl, hlw, hnw, c2, c3]
          repeat with_reducible refine And.intro (by first | assumption | omega | (simp; done) | (simp; omega) | (intro hg; simp +decide only [go_sem, hg]; done) | (intro hg; simp +decide only [go_sem, hg]; omega)) ?_
          refine ⟨Ext_cons (by simp [Store.keys]), ?_⟩
          refine hκ _ _ ?_; clear hκ hξ ξ κ
          refine rt ?_
          refine retL ?_
          simp +decide only [go_sem, resD, resV, List.take_length, c0, c1, hk, hkl, hlw, hnw, c2, c3]
          have e : pushR l d = (stayL l ++ [⟨nextN l, 0, d⟩], 0) := by
            unfold pushR
            rw [if_neg (fun h => h ⟨hv, hdb⟩), hst, hnx, if_neg (by omega)]
          rw [e, hst, hnx]
          simp only [List.map_append]
          exact DLe.tup ⟨DLe.tok _ _ _, DLe.refl _, trivial⟩
      · simp only [go_sem] at c2
        have hst : stayL l = l := by unfold stayL; rw [hkN, if_neg (by omega)]
        refine sk ?_
        refine sq ?_
        refine sq ?_
        refine rg [3, 6, 7, 46] [] [(3, 43)] (by kernel_rfl) ?_; intro κ ξ hκ hξ
        try simp +decide only [go_sem, Nat.reduceMul, Nat.reduceAdd, Nat.reduceBEq, cond_false, List.take_length, c0, c1, hk, hkl, hlw, hnw, c2]
        repeat with_reducible refine And.intro (by first | assumption | omega | (simp; done) | (simp; omega) | (intro hg; simp +decide only [go_sem, hg]; done) | (intro hg; simp +decide only [go_sem, hg]; omega)) ?_
        refine hκ _ _ ?_; clear hκ hξ ξ κ
        refine cd (by rfl) (fun c4 => ?_) (fun c4 => ?_)
        · try simp only [go_sem] at c4
          refine sq ?_
          refine rg [4, 5] [] [] (by kernel_rfl) ?_; intro κ ξ hκ hξ
          try simp +decide only [go_sem, Nat.reduceMul, Nat.reduceAdd, Nat.reduceBEq, cond_false, List.take_length, c0, c1, hk, hkl, hlw, hnw, c2, c4]
          repeat with_reducible refine And.intro (by first | assumption | omega | (simp; done) | (simp; omega) | (intro hg; simp +decide only [go_sem, hg]; done) | (intro hg; simp +decide only [go_sem, hg]; omega)) ?_
          refine hκ _ _ ?_; clear hκ hξ ξ κ
          refine rt ?_
          refine retL ?_
          simp +decide only [go_sem, resD, resV, List.take_length, c0, c1, hk, hkl, hlw, hnw, c2, c4]
          have e : pushR l d = ([], 2) := by
            unfold pushR
            rw [if_neg (fun h => h ⟨hv, hdb⟩), hst, hnx, if_pos (by omega)]
          rw [e]
          exact DLe.tup ⟨DLe.nil 6 0 .nil, DLe.refl _, trivial⟩
        · try simp only [go_sem] at c4
          refine sk ?_
          refine sq ?_
          refine rgd [4, 5] [] [] [] (by kernel_rfl) (by kernel_rfl) ?_; intro κ ξ hκ hξ
          try simp +decide only [go_sem, Nat.reduceMul, Nat.reduceAdd, Nat.reduceBEq, cond_false, List.take_length, c0, c1, hk, hkl, hlw, hnw, c2, c4]
          repeat with_reducible refine And.intro (by first | assumption | omega | (simp; done) | (simp; omega) | (intro hg; simp +decide only [go_sem, hg]; done) | (intro hg; simp +decide only [go_sem, hg]; omega)) ?_
          refine napp_full rfl rfl (by simp +decide only [go_sem, Option.isSome_some]) tf86 tf87 tf179 (by (refine ⟨⟨rfl, by decide, by decide⟩, by simp +decide only [go_sem], by simp, ?_⟩; simp [capB]; omega)) ?_; intro b57 c57 hb57
          try simp +decide only [go_sem, Nat.reduceMul, Nat.reduceAdd, Nat.reduceBEq, cond_false, List.take_length, c0, c1, hk, hkl, hlw, hnw, c2, c4]
          repeat with_reducible refine And.intro (by first | assumption | omega | (simp; done) | (simp; omega) | (intro hg; simp +decide only [go_sem, hg]; done) | (intro hg; simp +decide only [go_sem, hg]; omega)) ?_
          refine ⟨Ext_cons (by simp [Store.keys]), ?_⟩
          refine hκ _ _ ?_; clear hκ hξ ξ κ
          refine rt ?_
          refine retL ?_
          simp +decide only [go_sem, resD, resV, List.take_length, c0, c1, hk, hkl, hlw, hnw, c2, c4]
          have e : pushR l d = (stayL l ++ [⟨nextN l, 0, d⟩], 0) := by
            unfold pushR
            rw [if_neg (fun h => h ⟨hv, hdb⟩), hst, hnx, if_neg (by omega)]
          rw [e, hst, hnx]
          simp only [List.map_append]
          exact DLe.tup ⟨DLe.tok _ _ _, DLe.refl _, trivial⟩
    · simp only [go_sem] at c1
      have hst : stayL l = l := by unfold stayL; rw [if_neg (by omega)]
      have hnx : nextN l = 1 := by unfold nextN; rw [if_neg (by omega)]
      refine sk ?_
      refine sq ?_
      refine sq ?_
      refine rg [3, 6, 7, 46] [] [(3, 43)] (by kernel_rfl) ?_; intro κ ξ hκ hξ
      try simp +decide only [go_sem, Nat.reduceMul, Nat.reduceAdd, Nat.reduceBEq, cond_false, List.take_length, c0, c1]
      repeat with_reducible refine And.intro (by first | assumption | omega | (simp; done) | (simp; omega) | (intro hg; simp +decide only [go_sem, hg]; done) | (intro hg; simp +decide only [go_sem, hg]; omega)) ?_
      refine hκ _ _ ?_; clear hκ hξ ξ κ
      refine cd (by rfl) (fun c5 => ?_) (fun c5 => ?_)
      · try simp only [go_sem] at c5
        refine sq ?_
        refine rg [4, 5] [] [] (by kernel_rfl) ?_; intro κ ξ hκ hξ
        try simp +decide only [go_sem, Nat.reduceMul, Nat.reduceAdd, Nat.reduceBEq, cond_false, List.take_length, c0, c1, c5]
        repeat with_reducible refine And.intro (by first | assumption | omega | (simp; done) | (simp; omega) | (intro hg; simp +decide only [go_sem, hg]; done) | (intro hg; simp +decide only [go_sem, hg]; omega)) ?_
        refine hκ _ _ ?_; clear hκ hξ ξ κ
        refine rt ?_
        refine retL ?_
        simp +decide only [go_sem, resD, resV, List.take_length, c0, c1, c5]
        have e : pushR l d = ([], 2) := by
          unfold pushR
          rw [if_neg (fun h => h ⟨hv, hdb⟩), hst, hnx, if_pos (by omega)]
        rw [e]
        exact DLe.tup ⟨DLe.nil 6 0 .nil, DLe.refl _, trivial⟩
      · try simp only [go_sem] at c5
        refine sk ?_
        refine sq ?_
        refine rgd [4, 5] [] [] [] (by kernel_rfl) (by kernel_rfl) ?_; intro κ ξ hκ hξ
        try simp +decide only [go_sem, Nat.reduceMul, Nat.reduceAdd, Nat.reduceBEq, cond_false, List.take_length, c0, c1, c5]
        repeat with_reducible refine And.intro (by first | assumption | omega | (simp; done) | (simp; omega) | (intro hg; simp +decide only [go_sem, hg]; done) | (intro hg; simp +decide only [go_sem, hg]; omega)) ?_
        refine napp_full rfl rfl (by simp +decide only [go_sem, Option.isSome_some]) tf86 tf87 tf179 (by (refine ⟨⟨rfl, by decide, by decide⟩, by simp +decide only [go_sem], by simp, ?_⟩; simp [capB]; omega)) ?_; intro b57 c57 hb57
        try simp +decide only [go_sem, Nat.reduceMul, Nat.reduceAdd, Nat.reduceBEq, cond_false, List.take_length, c0, c1, c5]
        repeat with_reducible refine And.intro (by first | assumption | omega | (simp; done) | (simp; omega) | (intro hg; simp +decide only [go_sem, hg]; done) | (intro hg; simp +decide only [go_sem, hg]; omega)) ?_
        refine ⟨Ext_cons (by simp [Store.keys]), ?_⟩
        refine hκ _ _ ?_; clear hκ hξ ξ κ
        refine rt ?_
        refine retL ?_
        simp +decide only [go_sem, resD, resV, List.take_length, c0, c1, c5]
        have e : pushR l d = (stayL l ++ [⟨nextN l, 0, d⟩], 0) := by
          unfold pushR
          rw [if_neg (fun h => h ⟨hv, hdb⟩), hst, hnx, if_neg (by omega)]
        rw [e, hst, hnx]
        simp only [List.map_append]
        exact DLe.tup ⟨DLe.tok _ _ _, DLe.refl _, trivial⟩

end Go.Proofs.YtjjkgeeafjagkaaGreat
/- The walks of Hold, Let and Doc. Printed by a tool of our own. -/
namespace Go.Proofs.YtjjkgeeafjagkaaGreat
open Go Go.RowKit
set_option linter.unusedSimpArgs false
set_option linter.unusedVariables false
set_option maxHeartbeats 4000000
set_option maxRecDepth 100000
attribute [local go_sem] List.length_map rowAt_n nrow rowAt_t trow rowAt_i irow
attribute [local go_sem] rowAt_e rowAt_tm rowAt_dc rowAt_ru tmrow dcrow rurow
attribute [local go_sem] rowAt_br rowAt_s rowAt_fo rowAt_ve rowAt_g rowAt_k grow krow srow brrow forow dorow verow
theorem hold_w (l : List Ve) (t : Tok) : PCall Tryz.prog (.func 16) [.sl 6 (l.map verow) t] (.tup [.sl 6 ((holdR l).1.map verow) .no, .int .i64 (holdR l).2.1, .int .i64 (holdR l).2.2]) := by
  refine PCall.ok fun hok => ?_
  simp only [okAll, D.ok, okRows, and_true, true_and, lim_eq, inR_i64', inR_i32', inR_u8', inR_u16', inR_u64'] at hok
  obtain ⟨hl, hr⟩ := hok; rw [List.length_map] at hl
  have hlw : IntKind.wrap .i64 ((l.length : Int) - 1) = (l.length : Int) - 1 := w64 (by omega)
  refine PCall.le ?_
  refine fn_ Tryz.func16 (by rfl) (by rfl) (rs := [.tmp 2, .tmp 3, .tmp 4]) (by rfl) (by simp [Tryz.f16]) ?_
  refine sq ?_
  refine rg [0] [] [] (by kernel_rfl) ?_; intro κ ξ hκ hξ
  try simp +decide only [go_sem, Nat.reduceMul, Nat.reduceAdd, Nat.reduceBEq, cond_false, hlw]
  repeat with_reducible refine And.intro (by first | assumption | omega | (simp; done) | (simp; omega) | (intro hg; simp +decide only [go_sem, hg]; done) | (intro hg; simp +decide only [go_sem, hg]; omega)) ?_
  refine hκ _ _ ?_; clear hκ hξ ξ κ
  refine sq ?_
  refine rg [0, 5] [] [] (by kernel_rfl) ?_; intro κ ξ hκ hξ
  try simp +decide only [go_sem, Nat.reduceMul, Nat.reduceAdd, Nat.reduceBEq, cond_false, hlw]
  repeat with_reducible refine And.intro (by first | assumption | omega | (simp; done) | (simp; omega) | (intro hg; simp +decide only [go_sem, hg]; done) | (intro hg; simp +decide only [go_sem, hg]; omega)) ?_
  refine hκ _ _ ?_; clear hκ hξ ξ κ
  refine sq ?_
  refine bl ?_
  refine sq ?_
  refine rg [0, 5, 9] [] [] (by kernel_rfl) ?_; intro κ ξ hκ hξ
  try simp +decide only [go_sem, Nat.reduceMul, Nat.reduceAdd, Nat.reduceBEq, cond_false, hlw]
  repeat with_reducible refine And.intro (by first | assumption | omega | (simp; done) | (simp; omega) | (intro hg; simp +decide only [go_sem, hg]; done) | (intro hg; simp +decide only [go_sem, hg]; omega)) ?_
  refine callF (ver_w _ _) ?_
  try simp +decide only [go_sem, Nat.reduceMul, Nat.reduceAdd, Nat.reduceBEq, cond_false, hlw]
  repeat with_reducible refine And.intro (by first | assumption | omega | (simp; done) | (simp; omega) | (intro hg; simp +decide only [go_sem, hg]; done) | (intro hg; simp +decide only [go_sem, hg]; omega)) ?_
  refine hκ _ _ ?_; clear hκ hξ ξ κ
  refine cd (by rfl) (fun c0 => ?_) (fun c0 => ?_)
  · simp only [go_sem] at c0
    refine sq ?_
    refine rg [2, 3, 4] [] [] (by kernel_rfl) ?_; intro κ ξ hκ hξ
    try simp +decide only [go_sem, Nat.reduceMul, Nat.reduceAdd, Nat.reduceBEq, cond_false, hlw, c0]
    repeat with_reducible refine And.intro (by first | assumption | omega | (simp; done) | (simp; omega) | (intro hg; simp +decide only [go_sem, hg]; done) | (intro hg; simp +decide only [go_sem, hg]; omega)) ?_
    refine hκ _ _ ?_; clear hκ hξ ξ κ
    refine rt ?_
    refine retL ?_
    simp +decide only [go_sem, resD, resV, hlw, c0]
    have e : holdR l = ([], 0, 1) := by
      unfold holdR
      rw [if_pos c0]
    rw [e]
    exact DLe.tup ⟨DLe.nil 6 0 .nil, DLe.refl _, DLe.refl _, trivial⟩
  · simp only [go_sem] at c0
    have hv := c0
    refine sq ?_
    refine rg [0, 5, 13] [] [] (by kernel_rfl) ?_; intro κ ξ hκ hξ
    try simp +decide only [go_sem, Nat.reduceMul, Nat.reduceAdd, Nat.reduceBEq, cond_false, hlw, c0]
    repeat with_reducible refine And.intro (by first | assumption | omega | (simp; done) | (simp; omega) | (intro hg; simp +decide only [go_sem, hg]; done) | (intro hg; simp +decide only [go_sem, hg]; omega)) ?_
    refine hκ _ _ ?_; clear hκ hξ ξ κ
    refine cd (by rfl) (fun c1 => ?_) (fun c1 => ?_)
    · simp only [go_sem] at c1
      refine sq ?_
      refine rg [2, 3, 4] [] [] (by kernel_rfl) ?_; intro κ ξ hκ hξ
      try simp +decide only [go_sem, Nat.reduceMul, Nat.reduceAdd, Nat.reduceBEq, cond_false, hlw, c0, c1]
      repeat with_reducible refine And.intro (by first | assumption | omega | (simp; done) | (simp; omega) | (intro hg; simp +decide only [go_sem, hg]; done) | (intro hg; simp +decide only [go_sem, hg]; omega)) ?_
      refine hκ _ _ ?_; clear hκ hξ ξ κ
      refine rt ?_
      refine retL ?_
      simp +decide only [go_sem, resD, resV, hlw, c0, c1]
      have e : holdR l = ([], 0, 4) := by
        unfold holdR
        rw [hv, if_neg (by simp), if_pos (by omega)]
      rw [e]
      exact DLe.tup ⟨DLe.nil 6 0 .nil, DLe.refl _, DLe.refl _, trivial⟩
    · simp only [go_sem] at c1
      obtain ⟨k, hk⟩ : ∃ k : Nat, (l.length : Int) - 1 = (k : Int) := ⟨l.length - 1, by omega⟩
      have hkN : l.length - 1 = k := by omega
      have hkl : (k : Int) < l.length := by omega
      have hvk := vok_true.1 ((ver_true.1 hv).2 k (by omega))
      refine sq ?_
      refine rg [0, 5, 16] [] [] (by kernel_rfl) ?_; intro κ ξ hκ hξ
      try simp +decide only [go_sem, Nat.reduceMul, Nat.reduceAdd, Nat.reduceBEq, cond_false, hlw, c0, c1, hk, hkl]
      repeat with_reducible refine And.intro (by first | assumption | omega | (simp; done) | (simp; omega) | (intro hg; simp +decide only [go_sem, hg]; done) | (intro hg; simp +decide only [go_sem, hg]; omega)) ?_
      refine hκ _ _ ?_; clear hκ hξ ξ κ
      refine cd (by rfl) (fun c2 => ?_) (fun c2 => ?_)
      · try simp only [go_sem] at c2
        refine sq ?_
        refine rg [2, 3, 4] [] [] (by kernel_rfl) ?_; intro κ ξ hκ hξ
        try simp +decide only [go_sem, Nat.reduceMul, Nat.reduceAdd, Nat.reduceBEq, cond_false, hlw, c0, c1, hk, hkl, c2]
        repeat with_reducible refine And.intro (by first | assumption | omega | (simp; done) | (simp; omega) | (intro hg; simp +decide only [go_sem, hg]; done) | (intro hg; simp +decide only [go_sem, hg]; omega)) ?_
        refine hκ _ _ ?_; clear hκ hξ ξ κ
        refine rt ?_
        refine retL ?_
        simp +decide only [go_sem, resD, resV, hlw, c0, c1, hk, hkl, c2]
        have e : holdR l = ([], 0, 2) := by
          unfold holdR
          rw [hv, if_neg (by simp), if_neg (by omega), hkN, if_pos c2]
        rw [e]
        exact DLe.tup ⟨DLe.nil 6 0 .nil, DLe.refl _, DLe.refl _, trivial⟩
      · try simp only [go_sem] at c2
        refine sk ?_
        refine sq ?_
        refine rgd [2, 3, 4] [] [25] [] (by kernel_rfl) (by kernel_rfl) ?_; intro κ ξ hκ hξ
        try simp +decide only [go_sem, Nat.reduceMul, Nat.reduceAdd, Nat.reduceBEq, cond_false, hlw, c0, c1, hk, hkl, c2]
        repeat with_reducible refine And.intro (by first | assumption | omega | (simp; done) | (simp; omega) | (intro hg; simp +decide only [go_sem, hg]; done) | (intro hg; simp +decide only [go_sem, hg]; omega)) ?_
        refine scallF (chg_w l _ k 1 (by omega) (by have := (ver_true.1 hv).1; omega) (by omega) hvk.1.2.2.1) ?_
        try simp +decide only [go_sem, Nat.reduceMul, Nat.reduceAdd, Nat.reduceBEq, cond_false, hlw, c0, c1, hk, hkl, c2]
        repeat with_reducible refine And.intro (by first | assumption | omega | (simp; done) | (simp; omega) | (intro hg; simp +decide only [go_sem, hg]; done) | (intro hg; simp +decide only [go_sem, hg]; omega)) ?_
        refine hκ _ _ ?_; clear hκ hξ ξ κ
        refine rt ?_
        refine retL ?_
        simp +decide only [go_sem, resD, resV, hlw, c0, c1, hk, hkl, c2]
        have e : holdR l = (chg l k 1, (veat l k).num, 0) := by
          unfold holdR
          rw [hv, if_neg (by simp), if_neg (by omega), hkN, if_neg c2]
        rw [e]
        exact DLe.refl _

theorem let_w (l : List Ve) (t : Tok) (n : Int) : PCall Tryz.prog (.func 18) [.sl 6 (l.map verow) t, .int .i64 n] (.tup [.sl 6 ((letR l n).1.map verow) .no, .int .i64 (letR l n).2]) := by
  refine PCall.ok fun hok => ?_
  simp only [okAll, D.ok, okRows, and_true, true_and, lim_eq, inR_i64', inR_i32', inR_u8', inR_u16', inR_u64'] at hok
  obtain ⟨⟨hl, hr⟩, hx⟩ := hok; rw [List.length_map] at hl
  refine PCall.le ?_
  refine fn_ Tryz.func18 (by rfl) (by rfl) (rs := [.tmp 4, .tmp 5]) (by rfl) (by simp [Tryz.f18]) ?_
  refine sq ?_
  refine rg [0, 1] [] [] (by kernel_rfl) ?_; intro κ ξ hκ hξ
  try simp +decide only [go_sem, Nat.reduceMul, Nat.reduceAdd, Nat.reduceBEq, cond_false]
  repeat with_reducible refine And.intro (by first | assumption | omega | (simp; done) | (simp; omega) | (intro hg; simp +decide only [go_sem, hg]; done) | (intro hg; simp +decide only [go_sem, hg]; omega)) ?_
  refine hκ _ _ ?_; clear hκ hξ ξ κ
  refine sq ?_
  refine sq ?_
  refine rg [0, 1, 10] [] [] (by kernel_rfl) ?_; intro κ ξ hκ hξ
  try simp +decide only [go_sem, Nat.reduceMul, Nat.reduceAdd, Nat.reduceBEq, cond_false]
  repeat with_reducible refine And.intro (by first | assumption | omega | (simp; done) | (simp; omega) | (intro hg; simp +decide only [go_sem, hg]; done) | (intro hg; simp +decide only [go_sem, hg]; omega)) ?_
  refine callF (ver_w _ _) ?_
  try simp +decide only [go_sem, Nat.reduceMul, Nat.reduceAdd, Nat.reduceBEq, cond_false]
  repeat with_reducible refine And.intro (by first | assumption | omega | (simp; done) | (simp; omega) | (intro hg; simp +decide only [go_sem, hg]; done) | (intro hg; simp +decide only [go_sem, hg]; omega)) ?_
  refine hκ _ _ ?_; clear hκ hξ ξ κ
  refine cd (by rfl) (fun c0 => ?_) (fun c0 => ?_)
  · simp only [go_sem] at c0
    refine sq ?_
    refine rg [4, 5] [] [] (by kernel_rfl) ?_; intro κ ξ hκ hξ
    try simp +decide only [go_sem, Nat.reduceMul, Nat.reduceAdd, Nat.reduceBEq, cond_false, c0]
    repeat with_reducible refine And.intro (by first | assumption | omega | (simp; done) | (simp; omega) | (intro hg; simp +decide only [go_sem, hg]; done) | (intro hg; simp +decide only [go_sem, hg]; omega)) ?_
    refine hκ _ _ ?_; clear hκ hξ ξ κ
    refine rt ?_
    refine retL ?_
    simp +decide only [go_sem, resD, resV, c0]
    have e : letR l n = ([], 1) := by
      unfold letR
      rw [if_pos c0]
    rw [e]
    exact DLe.tup ⟨DLe.nil 6 0 .nil, DLe.refl _, trivial⟩
  · simp only [go_sem] at c0
    have hv := c0
    refine sk ?_
    refine sq ?_
    refine rg [0, 6, 7] [] [] (by kernel_rfl) ?_; intro κ ξ hκ hξ
    try simp +decide only [go_sem, Nat.reduceMul, Nat.reduceAdd, Nat.reduceBEq, cond_false, c0]
    repeat with_reducible refine And.intro (by first | assumption | omega | (simp; done) | (simp; omega) | (intro hg; simp +decide only [go_sem, hg]; done) | (intro hg; simp +decide only [go_sem, hg]; omega)) ?_
    refine callF (vfind_w _ _ _ hv) ?_
    try simp +decide only [go_sem, Nat.reduceMul, Nat.reduceAdd, Nat.reduceBEq, cond_false, c0]
    repeat with_reducible refine And.intro (by first | assumption | omega | (simp; done) | (simp; omega) | (intro hg; simp +decide only [go_sem, hg]; done) | (intro hg; simp +decide only [go_sem, hg]; omega)) ?_
    refine hκ _ _ ?_; clear hκ hξ ξ κ
    refine sq ?_
    refine bl ?_
    refine sq ?_
    by_cases hv0 : 0 ≤ vix l n
    · obtain ⟨k, hk, hkN⟩ : ∃ k : Nat, vix l n = (k : Int) ∧ k < l.length := by
        rcases vix_cases l n with ⟨i, h1, _, _, h2⟩ | ⟨_, h2⟩
        · exact ⟨i, h2, h1⟩
        · omega
      have hk0 : (0 : Int) ≤ (k : Int) := by omega
      have hkn : ¬ (k : Int) < 0 := by omega
      have hkl : (k : Int) < l.length := by omega
      have hvk := vok_true.1 ((ver_true.1 hv).2 k hkN)
      refine rg [0, 6, 7, 17] [] [] (by kernel_rfl) ?_; intro κ ξ hκ hξ
      try simp +decide only [go_sem, Nat.reduceMul, Nat.reduceAdd, Nat.reduceBEq, cond_false, c0, hk, hk0, hkn, hkl, if_true]
      repeat with_reducible refine And.intro (by first | assumption | omega | (simp; done) | (simp; omega) | (intro hg; simp +decide only [go_sem, hg]; done) | (intro hg; simp +decide only [go_sem, hg]; omega)) ?_
      refine hκ _ _ ?_; clear hκ hξ ξ κ
      refine cdf (by rfl) ?_
      refine sq ?_
      refine rg [0, 6, 21] [] [] (by kernel_rfl) ?_; intro κ ξ hκ hξ
      try simp +decide only [go_sem, Nat.reduceMul, Nat.reduceAdd, Nat.reduceBEq, cond_false, c0, hk, hk0, hkn, hkl, if_true]
      repeat with_reducible refine And.intro (by first | assumption | omega | (simp; done) | (simp; omega) | (intro hg; simp +decide only [go_sem, hg]; done) | (intro hg; simp +decide only [go_sem, hg]; omega)) ?_
      refine hκ _ _ ?_; clear hκ hξ ξ κ
      refine cd (by rfl) (fun c1 => ?_) (fun c1 => ?_)
      · try simp only [go_sem] at c1
        refine sq ?_
        refine rg [4, 5] [] [] (by kernel_rfl) ?_; intro κ ξ hκ hξ
        try simp +decide only [go_sem, Nat.reduceMul, Nat.reduceAdd, Nat.reduceBEq, cond_false, c0, hk, hk0, hkn, hkl, if_true, c1]
        repeat with_reducible refine And.intro (by first | assumption | omega | (simp; done) | (simp; omega) | (intro hg; simp +decide only [go_sem, hg]; done) | (intro hg; simp +decide only [go_sem, hg]; omega)) ?_
        refine hκ _ _ ?_; clear hκ hξ ξ κ
        refine rt ?_
        refine retL ?_
        simp +decide only [go_sem, resD, resV, c0, hk, hk0, hkn, hkl, if_true, c1]
        have e : letR l n = ([], 6) := by
          unfold letR
          rw [hv, if_neg (by simp), hk, if_neg (by omega), Int.toNat_natCast, if_pos c1]
        rw [e]
        exact DLe.tup ⟨DLe.nil 6 0 .nil, DLe.refl _, trivial⟩
      · try simp only [go_sem] at c1
        refine sk ?_
        refine sq ?_
        refine rg [4, 5] [] [] (by kernel_rfl) ?_; intro κ ξ hκ hξ
        try simp +decide only [go_sem, Nat.reduceMul, Nat.reduceAdd, Nat.reduceBEq, cond_false, c0, hk, hk0, hkn, hkl, if_true, c1]
        repeat with_reducible refine And.intro (by first | assumption | omega | (simp; done) | (simp; omega) | (intro hg; simp +decide only [go_sem, hg]; done) | (intro hg; simp +decide only [go_sem, hg]; omega)) ?_
        refine callF (chg_w l _ k (-1) (by omega) (by have := (ver_true.1 hv).1; omega) (by omega) hvk.1.2.2.1) ?_
        try simp +decide only [go_sem, Nat.reduceMul, Nat.reduceAdd, Nat.reduceBEq, cond_false, c0, hk, hk0, hkn, hkl, if_true, c1]
        repeat with_reducible refine And.intro (by first | assumption | omega | (simp; done) | (simp; omega) | (intro hg; simp +decide only [go_sem, hg]; done) | (intro hg; simp +decide only [go_sem, hg]; omega)) ?_
        refine hκ _ _ ?_; clear hκ hξ ξ κ
        refine rt ?_
        refine retL ?_
        simp +decide only [go_sem, resD, resV, c0, hk, hk0, hkn, hkl, if_true, c1]
        have e : letR l n = (chg l k (-1), 0) := by
          unfold letR
          rw [hv, if_neg (by simp), hk, if_neg (by omega), Int.toNat_natCast, if_neg c1]
        rw [e]
        exact DLe.refl _
    · skip
      refine rg [0, 6, 7, 17] [] [] (by kernel_rfl) ?_; intro κ ξ hκ hξ
      try simp +decide only [go_sem, Nat.reduceMul, Nat.reduceAdd, Nat.reduceBEq, cond_false, c0, hv0, if_false]
      repeat with_reducible refine And.intro (by first | assumption | omega | (simp; done) | (simp; omega) | (intro hg; simp +decide only [go_sem, hg]; done) | (intro hg; simp +decide only [go_sem, hg]; omega)) ?_
      refine hκ _ _ ?_; clear hκ hξ ξ κ
      refine cdt (by rfl) ?_
      refine sq ?_
      refine rg [4, 5] [] [] (by kernel_rfl) ?_; intro κ ξ hκ hξ
      try simp +decide only [go_sem, Nat.reduceMul, Nat.reduceAdd, Nat.reduceBEq, cond_false, c0, hv0, if_false]
      repeat with_reducible refine And.intro (by first | assumption | omega | (simp; done) | (simp; omega) | (intro hg; simp +decide only [go_sem, hg]; done) | (intro hg; simp +decide only [go_sem, hg]; omega)) ?_
      refine hκ _ _ ?_; clear hκ hξ ξ κ
      refine rt ?_
      refine retL ?_
      simp +decide only [go_sem, resD, resV, c0, hv0, if_false]
      have e : letR l n = ([], 4) := by
        unfold letR
        rw [hv, if_neg (by simp), if_pos (by omega)]
      rw [e]
      exact DLe.tup ⟨DLe.nil 6 0 .nil, DLe.refl _, trivial⟩

theorem vdoc_w (l : List Ve) (t : Tok) (n : Int) : PCall Tryz.prog (.func 20) [.sl 6 (l.map verow) t, .int .i64 n] (.tup [.ag (dorow (docR l n).1), .int .i64 (docR l n).2]) := by
  refine PCall.ok fun hok => ?_
  simp only [okAll, D.ok, okRows, and_true, true_and, lim_eq, inR_i64', inR_i32', inR_u8', inR_u16', inR_u64'] at hok
  obtain ⟨⟨hl, hr⟩, hx⟩ := hok; rw [List.length_map] at hl
  refine PCall.le ?_
  refine fn_ Tryz.func20 (by rfl) (by rfl) (rs := [.cell 4 28, .tmp 5]) (by rfl) (by simp [Tryz.f20]) ?_
  refine sq ?_
  refine rg [0, 1, 4] [] [] (by kernel_rfl) ?_; intro κ ξ hκ hξ
  try simp +decide only [go_sem, Nat.reduceMul, Nat.reduceAdd, Nat.reduceBEq, cond_false]
  repeat with_reducible refine And.intro (by first | assumption | omega | (simp; done) | (simp; omega) | (intro hg; simp +decide only [go_sem, hg]; done) | (intro hg; simp +decide only [go_sem, hg]; omega)) ?_
  intro b4 hb4
  try simp +decide only [go_sem, Nat.reduceMul, Nat.reduceAdd, Nat.reduceBEq, cond_false, hb4]
  repeat with_reducible refine And.intro (by first | assumption | omega | (simp; done) | (simp; omega) | (intro hg; simp +decide only [go_sem, hg]; done) | (intro hg; simp +decide only [go_sem, hg]; omega)) ?_
  refine hκ _ _ ?_; clear hκ hξ ξ κ
  refine sq ?_
  refine sq ?_
  refine rg [0, 1, 4, 10] [] [] (by kernel_rfl) ?_; intro κ ξ hκ hξ
  try simp +decide only [go_sem, Nat.reduceMul, Nat.reduceAdd, Nat.reduceBEq, cond_false, hb4]
  repeat with_reducible refine And.intro (by first | assumption | omega | (simp; done) | (simp; omega) | (intro hg; simp +decide only [go_sem, hg]; done) | (intro hg; simp +decide only [go_sem, hg]; omega)) ?_
  refine callF (ver_w _ _) ?_
  try simp +decide only [go_sem, Nat.reduceMul, Nat.reduceAdd, Nat.reduceBEq, cond_false, hb4]
  repeat with_reducible refine And.intro (by first | assumption | omega | (simp; done) | (simp; omega) | (intro hg; simp +decide only [go_sem, hg]; done) | (intro hg; simp +decide only [go_sem, hg]; omega)) ?_
  refine hκ _ _ ?_; clear hκ hξ ξ κ
  refine cd (by rfl) (fun c0 => ?_) (fun c0 => ?_)
  · simp only [go_sem] at c0
    refine sq ?_
    refine rg [4, 5] [] [] (by kernel_rfl) ?_; intro κ ξ hκ hξ
    try simp +decide only [go_sem, Nat.reduceMul, Nat.reduceAdd, Nat.reduceBEq, cond_false, hb4, c0]
    repeat with_reducible refine And.intro (by first | assumption | omega | (simp; done) | (simp; omega) | (intro hg; simp +decide only [go_sem, hg]; done) | (intro hg; simp +decide only [go_sem, hg]; omega)) ?_
    refine hκ _ _ ?_; clear hκ hξ ξ κ
    refine rt ?_
    refine retL ?_
    simp +decide only [go_sem, resD, resV, hb4, c0]
    have e : docR l n = (do0, 1) := by
      unfold docR
      rw [if_pos c0]
    rw [e]
    exact DLe.tup ⟨DLe.ag ⟨DLe.nil _ _ _, DLe.nil _ _ _, DLe.nil _ _ _, DLe.nil _ _ _, trivial⟩, DLe.refl _, trivial⟩
  · simp only [go_sem] at c0
    have hv := c0
    refine sk ?_
    refine sq ?_
    refine rg [0, 4, 6, 7] [] [] (by kernel_rfl) ?_; intro κ ξ hκ hξ
    try simp +decide only [go_sem, Nat.reduceMul, Nat.reduceAdd, Nat.reduceBEq, cond_false, hb4, c0]
    repeat with_reducible refine And.intro (by first | assumption | omega | (simp; done) | (simp; omega) | (intro hg; simp +decide only [go_sem, hg]; done) | (intro hg; simp +decide only [go_sem, hg]; omega)) ?_
    refine callF (vfind_w _ _ _ hv) ?_
    try simp +decide only [go_sem, Nat.reduceMul, Nat.reduceAdd, Nat.reduceBEq, cond_false, hb4, c0]
    repeat with_reducible refine And.intro (by first | assumption | omega | (simp; done) | (simp; omega) | (intro hg; simp +decide only [go_sem, hg]; done) | (intro hg; simp +decide only [go_sem, hg]; omega)) ?_
    refine hκ _ _ ?_; clear hκ hξ ξ κ
    refine sq ?_
    refine sq ?_
    by_cases hv0 : 0 ≤ vix l n
    · obtain ⟨k, hk, hkN⟩ : ∃ k : Nat, vix l n = (k : Int) ∧ k < l.length := by
        rcases vix_cases l n with ⟨i, h1, _, _, h2⟩ | ⟨_, h2⟩
        · exact ⟨i, h2, h1⟩
        · omega
      have hk0 : (0 : Int) ≤ (k : Int) := by omega
      have hkn : ¬ (k : Int) < 0 := by omega
      have hkl : (k : Int) < l.length := by omega
      have hvk := vok_true.1 ((ver_true.1 hv).2 k hkN)
      refine rg [0, 4, 6, 7, 19] [] [] (by kernel_rfl) ?_; intro κ ξ hκ hξ
      try simp +decide only [go_sem, Nat.reduceMul, Nat.reduceAdd, Nat.reduceBEq, cond_false, hb4, c0, hk, hk0, hkn, hkl, if_true]
      repeat with_reducible refine And.intro (by first | assumption | omega | (simp; done) | (simp; omega) | (intro hg; simp +decide only [go_sem, hg]; done) | (intro hg; simp +decide only [go_sem, hg]; omega)) ?_
      refine hκ _ _ ?_; clear hκ hξ ξ κ
      refine cdf (by rfl) ?_
      refine sk ?_
      refine sq ?_
      refine rg [4, 5] [] [] (by kernel_rfl) ?_; intro κ ξ hκ hξ
      try simp +decide only [go_sem, Nat.reduceMul, Nat.reduceAdd, Nat.reduceBEq, cond_false, hb4, c0, hk, hk0, hkn, hkl, if_true]
      repeat with_reducible refine And.intro (by first | assumption | omega | (simp; done) | (simp; omega) | (intro hg; simp +decide only [go_sem, hg]; done) | (intro hg; simp +decide only [go_sem, hg]; omega)) ?_
      refine hκ _ _ ?_; clear hκ hξ ξ κ
      refine rt ?_
      refine retL ?_
      simp +decide only [go_sem, resD, resV, hb4, c0, hk, hk0, hkn, hkl, if_true]
      have e : docR l n = ((veat l k).doc, 0) := by
        unfold docR
        rw [hv, if_neg (by simp), hk, if_neg (by omega), Int.toNat_natCast]
      rw [e]
      exact DLe.refl _
    · skip
      refine rg [0, 4, 6, 7, 19] [] [] (by kernel_rfl) ?_; intro κ ξ hκ hξ
      try simp +decide only [go_sem, Nat.reduceMul, Nat.reduceAdd, Nat.reduceBEq, cond_false, hb4, c0, hv0, if_false]
      repeat with_reducible refine And.intro (by first | assumption | omega | (simp; done) | (simp; omega) | (intro hg; simp +decide only [go_sem, hg]; done) | (intro hg; simp +decide only [go_sem, hg]; omega)) ?_
      refine hκ _ _ ?_; clear hκ hξ ξ κ
      refine cdt (by rfl) ?_
      refine sq ?_
      refine rg [4, 5] [] [] (by kernel_rfl) ?_; intro κ ξ hκ hξ
      try simp +decide only [go_sem, Nat.reduceMul, Nat.reduceAdd, Nat.reduceBEq, cond_false, hb4, c0, hv0, if_false]
      repeat with_reducible refine And.intro (by first | assumption | omega | (simp; done) | (simp; omega) | (intro hg; simp +decide only [go_sem, hg]; done) | (intro hg; simp +decide only [go_sem, hg]; omega)) ?_
      refine hκ _ _ ?_; clear hκ hξ ξ κ
      refine rt ?_
      refine retL ?_
      simp +decide only [go_sem, resD, resV, hb4, c0, hv0, if_false]
      have e : docR l n = (do0, 4) := by
        unfold docR
        rw [hv, if_neg (by simp), if_pos (by omega)]
      rw [e]
      exact DLe.tup ⟨DLe.ag ⟨DLe.nil _ _ _, DLe.nil _ _ _, DLe.nil _ _ _, DLe.nil _ _ _, trivial⟩, DLe.refl _, trivial⟩

end Go.Proofs.YtjjkgeeafjagkaaGreat

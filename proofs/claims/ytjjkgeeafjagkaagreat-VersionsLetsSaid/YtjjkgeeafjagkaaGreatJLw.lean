/- The law of what is let go. Printed by a tool of our own. -/
import Derived.Test.YtjjkgeeafjagkaaGreatWl
import Derived.Test.YtjjkgeeafjagkaaGreatJDh
import Derived.Test.YtjjkgeeafjagkaaGreatWj
import Derived.Test.YtjjkgeeafjagkaaGreatWi
import Derived.Test.YtjjkgeeafjagkaaGreatWk
import Derived.Test.YtjjkgeeafjagkaaGreatJKg
namespace Go.Proofs.YtjjkgeeafjagkaaGreat
open Go Go.RowKit
set_option linter.unusedSimpArgs false
set_option linter.unusedVariables false
set_option maxHeartbeats 4000000
set_option maxRecDepth 100000
attribute [local go_sem] List.length_map rowAt_n nrow rowAt_t trow rowAt_i irow
attribute [local go_sem] rowAt_e rowAt_tm rowAt_dc rowAt_ru tmrow dcrow rurow
attribute [local go_sem] rowAt_br rowAt_s rowAt_fo rowAt_ve rowAt_g rowAt_k grow krow srow brrow forow dorow verow
theorem law7_w (l : List Ve) (t : Tok) (w : Int) : PCall Tryz.prog (.func 7) [.sl 6 (l.map verow) t, .int .u8 w] (.bool true) := by
  refine PCall.ok fun hok => ?_
  simp only [okAll, D.ok, okRows, and_true, true_and, lim_eq, inR_i64', inR_i32', inR_u8', inR_u16', inR_u64'] at hok
  obtain ⟨⟨hl, hr⟩, hw⟩ := hok; rw [List.length_map] at hl
  have hww : IntKind.wrap .i64 w = w := w64 (by omega)
  refine PCall.le ?_
  refine fn_ Tryz.func7 (by rfl) (by rfl) (rs := [.tmp 4]) (by rfl) (by simp [Tryz.f7]) ?_
  refine sq ?_
  refine rg [0, 1] [] [] (by kernel_rfl) ?_; intro κ ξ hκ hξ
  try simp +decide only [go_sem, Nat.reduceMul, Nat.reduceAdd, Nat.reduceBEq, cond_false, beq_self_eq_true, decide_true, hww]
  repeat with_reducible refine And.intro (by first | assumption | omega | (simp; done) | (simp; omega) | (intro hg; simp +decide only [go_sem, hg]; done) | (intro hg; simp +decide only [go_sem, hg]; omega)) ?_
  refine hκ _ _ ?_; clear hκ hξ ξ κ
  refine sq ?_
  refine rg [0, 1, 5] [] [] (by kernel_rfl) ?_; intro κ ξ hκ hξ
  try simp +decide only [go_sem, Nat.reduceMul, Nat.reduceAdd, Nat.reduceBEq, cond_false, beq_self_eq_true, decide_true, hww]
  repeat with_reducible refine And.intro (by first | assumption | omega | (simp; done) | (simp; omega) | (intro hg; simp +decide only [go_sem, hg]; done) | (intro hg; simp +decide only [go_sem, hg]; omega)) ?_
  refine callF (head_w) ?_
  try simp +decide only [go_sem, Nat.reduceMul, Nat.reduceAdd, Nat.reduceBEq, cond_false, beq_self_eq_true, decide_true, hww]
  repeat with_reducible refine And.intro (by first | assumption | omega | (simp; done) | (simp; omega) | (intro hg; simp +decide only [go_sem, hg]; done) | (intro hg; simp +decide only [go_sem, hg]; omega)) ?_
  refine hκ _ _ ?_; clear hκ hξ ξ κ
  refine sq ?_
  refine sq ?_
  refine rg [0, 1, 5, 18] [] [(3, 14)] (by kernel_rfl) ?_; intro κ ξ hκ hξ
  try simp +decide only [go_sem, Nat.reduceMul, Nat.reduceAdd, Nat.reduceBEq, cond_false, beq_self_eq_true, decide_true, hww]
  repeat with_reducible refine And.intro (by first | assumption | omega | (simp; done) | (simp; omega) | (intro hg; simp +decide only [go_sem, hg]; done) | (intro hg; simp +decide only [go_sem, hg]; omega)) ?_
  refine callF (usab_w _ _) ?_
  try simp +decide only [go_sem, Nat.reduceMul, Nat.reduceAdd, Nat.reduceBEq, cond_false, beq_self_eq_true, decide_true, hww]
  repeat with_reducible refine And.intro (by first | assumption | omega | (simp; done) | (simp; omega) | (intro hg; simp +decide only [go_sem, hg]; done) | (intro hg; simp +decide only [go_sem, hg]; omega)) ?_
  refine hκ _ _ ?_; clear hκ hξ ξ κ
  refine cd (by rfl) (fun c0 => ?_) (fun c0 => ?_)
  · simp only [go_sem] at c0
    refine sq ?_
    refine rg [4] [] [] (by kernel_rfl) ?_; intro κ ξ hκ hξ
    try simp +decide only [go_sem, Nat.reduceMul, Nat.reduceAdd, Nat.reduceBEq, cond_false, beq_self_eq_true, decide_true, hww, c0]
    repeat with_reducible refine And.intro (by first | assumption | omega | (simp; done) | (simp; omega) | (intro hg; simp +decide only [go_sem, hg]; done) | (intro hg; simp +decide only [go_sem, hg]; omega)) ?_
    refine hκ _ _ ?_; clear hκ hξ ξ κ
    refine rt ?_
    refine retE ?_
    simp +decide only [go_sem, resD, resV, beq_self_eq_true, decide_true, hww, c0]
    
  · simp only [go_sem] at c0
    have hv := c0.1.2
    have hln : l.length ≠ 0 := by omega
    obtain ⟨k, hk, hki⟩ := mod_ix hw.1 hln
    have hkl : (k : Int) < l.length := by omega
    have hl5 := (ver_true.1 hv).1
    have hkv := (vok_true.1 ((ver_true.1 hv).2 k hki)).1
    have hix := vix_self hv hki
    have hne2 : l.map verow ≠ [] := by intro e; rw [List.map_eq_nil_iff] at e; rw [e] at hki; simp at hki
    refine sk ?_
    refine sq ?_
    refine rg [0, 5, 6] [] [] (by kernel_rfl) ?_; intro κ ξ hκ hξ
    try simp +decide only [go_sem, Nat.reduceMul, Nat.reduceAdd, Nat.reduceBEq, cond_false, beq_self_eq_true, decide_true, hww, c0, hk, hkl]
    repeat with_reducible refine And.intro (by first | assumption | omega | (simp; done) | (simp; omega) | (intro hg; simp +decide only [go_sem, hg]; done) | (intro hg; simp +decide only [go_sem, hg]; omega)) ?_
    refine hκ _ _ ?_; clear hκ hξ ξ κ
    refine sq ?_
    have hkw : IntKind.wrap .i64 ((k : Int) + 1) = (k : Int) + 1 := w64 (by omega)
    rcases Classical.em ((veat l k).holds = 0) with hz | hz
    · have hlet : letR l (veat l k).num = ([], 6) := by
        unfold letR
        rw [hv, if_neg (by simp), hix, if_neg (by omega), Int.toNat_natCast, if_pos hz]
      refine rg [0, 5, 6, 7, 8] [] [] (by kernel_rfl) ?_; intro κ ξ hκ hξ
      try simp +decide only [go_sem, Nat.reduceMul, Nat.reduceAdd, Nat.reduceBEq, cond_false, beq_self_eq_true, decide_true, hww, c0, hk, hkl, hlet, hz]
      repeat with_reducible refine And.intro (by first | assumption | omega | (simp; done) | (simp; omega) | (intro hg; simp +decide only [go_sem, hg]; done) | (intro hg; simp +decide only [go_sem, hg]; omega)) ?_
      refine callF (let_w _ _ _) ?_
      try simp +decide only [go_sem, Nat.reduceMul, Nat.reduceAdd, Nat.reduceBEq, cond_false, beq_self_eq_true, decide_true, hww, c0, hk, hkl, hlet, hz]
      repeat with_reducible refine And.intro (by first | assumption | omega | (simp; done) | (simp; omega) | (intro hg; simp +decide only [go_sem, hg]; done) | (intro hg; simp +decide only [go_sem, hg]; omega)) ?_
      refine hκ _ _ ?_; clear hκ hξ ξ κ
      refine sq ?_
      refine sq ?_
      refine rg [0, 5, 6, 7, 8, 40] [] [] (by kernel_rfl) ?_; intro κ ξ hκ hξ
      try simp +decide only [go_sem, Nat.reduceMul, Nat.reduceAdd, Nat.reduceBEq, cond_false, beq_self_eq_true, decide_true, hww, c0, hk, hkl, hlet, hz]
      repeat with_reducible refine And.intro (by first | assumption | omega | (simp; done) | (simp; omega) | (intro hg; simp +decide only [go_sem, hg]; done) | (intro hg; simp +decide only [go_sem, hg]; omega)) ?_
      refine hκ _ _ ?_; clear hκ hξ ξ κ
      refine cdt (by rfl) ?_
      refine sq ?_
      refine rg [4] [] [(1, 42), (5, 46)] (by kernel_rfl) ?_; intro κ ξ hκ hξ
      try simp +decide only [go_sem, Nat.reduceMul, Nat.reduceAdd, Nat.reduceBEq, cond_false, beq_self_eq_true, decide_true, hww, c0, hk, hkl, hlet, hz]
      repeat with_reducible refine And.intro (by first | assumption | omega | (simp; done) | (simp; omega) | (intro hg; simp +decide only [go_sem, hg]; done) | (intro hg; simp +decide only [go_sem, hg]; omega)) ?_
      refine hκ _ _ ?_; clear hκ hξ ξ κ
      refine rt ?_
      refine retE ?_
      simp +decide only [go_sem, resD, resV, beq_self_eq_true, decide_true, hww, c0, hk, hkl, hlet, hz]
      
    · have hlet : letR l (veat l k).num = (chg l k (-1), 0) := by
        unfold letR
        rw [hv, if_neg (by simp), hix, if_neg (by omega), Int.toNat_natCast, if_neg hz]
      have hdr := ve_drop hki
      have hm1 : (k * 6 + 1) % 6 = 1 := by omega
      have hd1 : (k * 6 + 1) / 6 = k := by omega
      have hwh : IntKind.wrap .i64 ((veat l k).holds - 1) = (held (veat l k) (-1)).holds := by rw [w64 (by omega)]; rfl
      have hset := ve_set (held (veat l k) (-1)) hki rfl rfl
      refine rg [0, 5, 6, 7, 8] [] [] (by kernel_rfl) ?_; intro κ ξ hκ hξ
      try simp +decide only [go_sem, Nat.reduceMul, Nat.reduceAdd, Nat.reduceBEq, cond_false, beq_self_eq_true, decide_true, hww, c0, hk, hkl, hlet, hz, hdr, hm1, hd1, hwh, hset]
      repeat with_reducible refine And.intro (by first | assumption | omega | (simp; done) | (simp; omega) | (intro hg; simp +decide only [go_sem, hg]; done) | (intro hg; simp +decide only [go_sem, hg]; omega)) ?_
      refine callF (let_w _ _ _) ?_
      try simp +decide only [go_sem, Nat.reduceMul, Nat.reduceAdd, Nat.reduceBEq, cond_false, beq_self_eq_true, decide_true, hww, c0, hk, hkl, hlet, hz, hdr, hm1, hd1, hwh, hset]
      repeat with_reducible refine And.intro (by first | assumption | omega | (simp; done) | (simp; omega) | (intro hg; simp +decide only [go_sem, hg]; done) | (intro hg; simp +decide only [go_sem, hg]; omega)) ?_
      refine hκ _ _ ?_; clear hκ hξ ξ κ
      refine sq ?_
      refine sq ?_
      refine rg [0, 5, 6, 7, 8, 40] [] [] (by kernel_rfl) ?_; intro κ ξ hκ hξ
      try simp +decide only [go_sem, Nat.reduceMul, Nat.reduceAdd, Nat.reduceBEq, cond_false, beq_self_eq_true, decide_true, hww, c0, hk, hkl, hlet, hz, hdr, hm1, hd1, hwh, hset]
      repeat with_reducible refine And.intro (by first | assumption | omega | (simp; done) | (simp; omega) | (intro hg; simp +decide only [go_sem, hg]; done) | (intro hg; simp +decide only [go_sem, hg]; omega)) ?_
      refine hκ _ _ ?_; clear hκ hξ ξ κ
      refine cdf (by rfl) ?_
      refine sk ?_
      refine sq ?_
      refine sq ?_
      refine rg [0, 5, 6, 7, 52] [] [] (by kernel_rfl) ?_; intro κ ξ hκ hξ
      try simp +decide only [go_sem, Nat.reduceMul, Nat.reduceAdd, Nat.reduceBEq, cond_false, beq_self_eq_true, decide_true, hww, c0, hk, hkl, hlet, hz, hdr, hm1, hd1, hwh, hset]
      repeat with_reducible refine And.intro (by first | assumption | omega | (simp; done) | (simp; omega) | (intro hg; simp +decide only [go_sem, hg]; done) | (intro hg; simp +decide only [go_sem, hg]; omega)) ?_
      refine hκ _ _ ?_; clear hκ hξ ξ κ
      refine cdf (by rfl) ?_
      refine sk ?_
      refine sq ?_
      refine rg [0, 5, 6, 7, 9] [55] [] (by kernel_rfl) ?_; intro κ ξ hκ hξ
      try simp +decide only [go_sem, Nat.reduceMul, Nat.reduceAdd, Nat.reduceBEq, cond_false, beq_self_eq_true, decide_true, hww, c0, hk, hkl, hlet, hz, hdr, hm1, hd1, hwh, hset]
      repeat with_reducible refine And.intro (by first | assumption | omega | (simp; done) | (simp; omega) | (intro hg; simp +decide only [go_sem, hg]; done) | (intro hg; simp +decide only [go_sem, hg]; omega)) ?_
      refine .inl (nappM_full rfl rfl (by simp +decide only [go_sem, Option.isSome_some]) tf86 tf87 tf179 (by (refine ⟨⟨rfl, by decide, by decide⟩, by rw [List.all_map]; exact List.all_eq_true.2 fun _ _ => rfl, hne2, ?_⟩; rw [List.length_map]; simp [capB]; omega)) ?_); intro b55 c55 hb55 hc55
      rw [List.length_map] at hc55
      try simp +decide only [go_sem, Nat.reduceMul, Nat.reduceAdd, Nat.reduceBEq, cond_false, beq_self_eq_true, decide_true, hww, c0, hk, hkl, hlet, hz, hdr, hm1, hd1, hwh, hset, hb55]
      repeat with_reducible refine And.intro (by first | assumption | omega | (simp; done) | (simp; omega) | (intro hg; simp +decide only [go_sem, hg]; done) | (intro hg; simp +decide only [go_sem, hg]; omega)) ?_
      refine hκ _ _ ?_; clear hκ hξ ξ κ
      refine sq ?_
      refine rg [0, 5, 6, 7, 9] [] [] (by kernel_rfl) ?_; intro κ ξ hκ hξ
      try simp +decide only [go_sem, Nat.reduceMul, Nat.reduceAdd, Nat.reduceBEq, cond_false, beq_self_eq_true, decide_true, hww, c0, hk, hkl, hlet, hz, hdr, hm1, hd1, hwh, hset, hb55]
      repeat with_reducible refine And.intro (by first | assumption | omega | (simp; done) | (simp; omega) | (intro hg; simp +decide only [go_sem, hg]; done) | (intro hg; simp +decide only [go_sem, hg]; omega)) ?_
      refine hκ _ _ ?_; clear hκ hξ ξ κ
      obtain ⟨l2, hl2⟩ : ∃ l2, l2 = l.set k (held (veat l k) (-1)) := ⟨_, rfl⟩
      rw [← hl2]
      have hl2n : l2.length = l.length := by rw [hl2, List.length_set]
      have hv2 : veat l2 k = held (veat l k) (-1) := by rw [hl2, veat_set _ hki]
      have hdr2 := ve_drop0 (l := l2) (i := k) (by omega)
      rw [hv2] at hdr2
      replace hdr2 : List.drop (k * 6 + 0) (l2.map verow).flatten = _ := hdr2
      have hdr3 := ve_drop (l := l2) (i := k) (by omega)
      rw [hv2] at hdr3
      refine sq ?_
      refine sq ?_
      refine rg [5, 6, 7, 9, 76] [] [(6, 70)] (by kernel_rfl) ?_; intro κ ξ hκ hξ
      try simp +decide only [go_sem, Nat.reduceMul, Nat.reduceAdd, Nat.reduceBEq, cond_false, beq_self_eq_true, decide_true, hww, c0, hk, hkl, hlet, hz, hdr, hm1, hd1, hwh, hset, hb55, hdr2, hdr3, hl2n]
      repeat with_reducible refine And.intro (by first | assumption | omega | (simp; done) | (simp; omega) | (intro hg; simp +decide only [go_sem, hg]; done) | (intro hg; simp +decide only [go_sem, hg]; omega)) ?_
      refine hκ _ _ ?_; clear hκ hξ ξ κ
      refine cd (by rfl) (fun c1 => ?_) (fun c1 => ?_)
      · simp only [go_sem] at c1
        have hk0 : ¬ (k : Int) + 1 = 0 := by omega
        have hkt : ((k : Int) + 1).toNat = k + 1 := by omega
        have hch : chg l k (-1) = l.eraseIdx k := by
          unfold chg
          rw [if_pos ⟨show (veat l k).holds + -1 = 0 from c1.1, by omega⟩]
        have h6c : l.length ≤ c55 := by omega
        refine rgd [5, 7, 9] [84] [84] [] (by kernel_rfl) (by kernel_rfl) ?_; intro κ ξ hκ hξ
        try simp +decide only [go_sem, Nat.reduceMul, Nat.reduceAdd, Nat.reduceBEq, cond_false, beq_self_eq_true, decide_true, hww, c0, hk, hkl, hlet, hz, hdr, hm1, hd1, hwh, hset, hb55, hdr2, hdr3, hl2n, c1, hkw, hk0, hkt, hch, Int.toNat_natCast]
        repeat with_reducible refine And.intro (by first | assumption | omega | (simp; done) | (simp; omega) | (intro hg; simp +decide only [go_sem, hg]; done) | (intro hg; simp +decide only [go_sem, hg]; omega)) ?_
        refine .inl (nappM_cut (n := l.length) (show Store.get [(b55, Box.arr 6 (l2.map verow) c55)] b55 = some (.arr 6 (l2.map verow) c55) from by simp [Store.get]) (by simp [hl2n]) (by omega) h6c (fun r hr => by obtain ⟨v, _, rfl⟩ := List.mem_map.1 hr; rfl) rfl rfl (by simp +decide only [go_sem, Option.isSome_some]) tf86 tf87 tf179 (by refine ⟨⟨rfl, by decide, by decide⟩, ?_⟩; simp [capB]; omega) ?_)
        try simp +decide only [go_sem, Nat.reduceMul, Nat.reduceAdd, Nat.reduceBEq, cond_false, beq_self_eq_true, decide_true, hww, c0, hk, hkl, hlet, hz, hdr, hm1, hd1, hwh, hset, hb55, hdr2, hdr3, hl2n, c1, hkw, hk0, hkt, hch, Int.toNat_natCast]
        repeat with_reducible refine And.intro (by first | assumption | omega | (simp; done) | (simp; omega) | (intro hg; simp +decide only [go_sem, hg]; done) | (intro hg; simp +decide only [go_sem, hg]; omega)) ?_
        refine hκ _ _ ?_; clear hκ hξ ξ κ
        refine fza b55 [9] [] (sz := 6) (rows := (l2.map verow).eraseIdx k ++ [(l2.map verow).getD (l.length - 1) []]) (cap := c55) (by simp [Store.get, Store.upd]) ?_
        have hel : ((l2.map verow).eraseIdx k ++ [(l2.map verow).getD (l.length - 1) []]).length = l.length := by
          rw [List.length_append, List.length_eraseIdx, List.length_map, hl2n, if_pos hki, List.length_singleton]; omega
        refine weak (mk [(5, .bool true), (7, .sl 6 ((chg l k (-1)).map verow) .no), (9, .sl 6 ((l.eraseIdx k).map verow) .no)]) (EnvLe.of_l ⟨?_, ?_, ?_, trivial⟩) (List.nil_sublist _) ?_
        · rfl
        · rw [hch]; rfl
        · show (if b55 = b55 ∧ 6 = 6 ∧ l.length - 1 ≤ _ ∧ l.length - 1 ≤ c55 ∧ l.length - 1 ≤ lim then D.sl 6 (List.take (l.length - 1) _) .no else _) = _
          rw [if_pos ⟨rfl, rfl, by rw [hel]; omega, by omega, by unfold lim; omega⟩, hl2, er_set _ _ hki]
        refine sq ?_
        refine rg [4] [] [(1, 86)] (by kernel_rfl) ?_; intro κ ξ hκ hξ
        try simp +decide only [go_sem, Nat.reduceMul, Nat.reduceAdd, Nat.reduceBEq, cond_false, beq_self_eq_true, decide_true, hww, c0, hk, hkl, hlet, hz, hdr, hm1, hd1, hwh, hset, hb55, hdr2, hdr3, hl2n, c1, hkw, hk0, hkt, hch, Int.toNat_natCast]
        repeat with_reducible refine And.intro (by first | assumption | omega | (simp; done) | (simp; omega) | (intro hg; simp +decide only [go_sem, hg]; done) | (intro hg; simp +decide only [go_sem, hg]; omega)) ?_
        refine vo_gc ?_; simp +decide only [go_sem, beq_self_eq_true, decide_true, hww, c0, hk, hkl, hlet, hz, hdr, hm1, hd1, hwh, hset, hb55, hdr2, hdr3, hl2n, c1, hkw, hk0, hkt, hch, Int.toNat_natCast]; refine gcallF (fun hg => ⟨by first | rfl | (simp +decide only [go_sem, hg, beq_self_eq_true, decide_true, hww, c0, hk, hkl, hlet, hz, hdr, hm1, hd1, hwh, hset, hb55, hdr2, hdr3, hl2n, c1, hkw, hk0, hkt, hch, Int.toNat_natCast]; done) | exact hg | simpa using hg, samev_w _ _ _⟩) ?_
        try simp +decide only [go_sem, Nat.reduceMul, Nat.reduceAdd, Nat.reduceBEq, cond_false, beq_self_eq_true, decide_true, hww, c0, hk, hkl, hlet, hz, hdr, hm1, hd1, hwh, hset, hb55, hdr2, hdr3, hl2n, c1, hkw, hk0, hkt, hch, Int.toNat_natCast]
        repeat with_reducible refine And.intro (by first | assumption | omega | (simp; done) | (simp; omega) | (intro hg; simp +decide only [go_sem, hg]; done) | (intro hg; simp +decide only [go_sem, hg]; omega)) ?_
        refine hκ _ _ ?_; clear hκ hξ ξ κ
        refine rt ?_
        refine retE ?_
        simp +decide only [go_sem, resD, resV, beq_self_eq_true, decide_true, hww, c0, hk, hkl, hlet, hz, hdr, hm1, hd1, hwh, hset, hb55, hdr2, hdr3, hl2n, c1, hkw, hk0, hkt, hch, Int.toNat_natCast]
        
      · simp only [go_sem] at c1
        have hch : chg l k (-1) = l2 := by
          unfold chg
          rw [if_neg (by rintro ⟨h1, h2⟩; rcases c1 with c | c; exact c h1; omega), hl2]
        refine fza b55 [9] [] (sz := 6) (rows := l2.map verow) (cap := c55) (by simp [Store.get]) ?_
        refine weak (mk [(5, .bool true), (7, .sl 6 ((chg l k (-1)).map verow) .no), (9, .sl 6 (l2.map verow) .no)]) (EnvLe.of_l ⟨rfl, rfl, ?_, trivial⟩) (List.nil_sublist _) ?_
        · show fra b55 6 (l2.map verow) (.arr b55 6 l.length c55) = _
          exact fra_arr ⟨by rw [List.length_map, hl2n], hc55, by unfold lim; omega⟩
        refine sk ?_
        refine sq ?_
        refine rg [4] [] [(1, 86)] (by kernel_rfl) ?_; intro κ ξ hκ hξ
        try simp +decide only [go_sem, Nat.reduceMul, Nat.reduceAdd, Nat.reduceBEq, cond_false, beq_self_eq_true, decide_true, hww, c0, hk, hkl, hlet, hz, hdr, hm1, hd1, hwh, hset, hb55, hdr2, hdr3, hl2n, c1, hch]
        repeat with_reducible refine And.intro (by first | assumption | omega | (simp; done) | (simp; omega) | (intro hg; simp +decide only [go_sem, hg]; done) | (intro hg; simp +decide only [go_sem, hg]; omega)) ?_
        refine vo_gc ?_; simp +decide only [go_sem, beq_self_eq_true, decide_true, hww, c0, hk, hkl, hlet, hz, hdr, hm1, hd1, hwh, hset, hb55, hdr2, hdr3, hl2n, c1, hch]; refine gcallF (fun hg => ⟨by first | rfl | (simp +decide only [go_sem, hg, beq_self_eq_true, decide_true, hww, c0, hk, hkl, hlet, hz, hdr, hm1, hd1, hwh, hset, hb55, hdr2, hdr3, hl2n, c1, hch]; done) | exact hg | simpa using hg, samev_w _ _ _⟩) ?_
        try simp +decide only [go_sem, Nat.reduceMul, Nat.reduceAdd, Nat.reduceBEq, cond_false, beq_self_eq_true, decide_true, hww, c0, hk, hkl, hlet, hz, hdr, hm1, hd1, hwh, hset, hb55, hdr2, hdr3, hl2n, c1, hch]
        repeat with_reducible refine And.intro (by first | assumption | omega | (simp; done) | (simp; omega) | (intro hg; simp +decide only [go_sem, hg]; done) | (intro hg; simp +decide only [go_sem, hg]; omega)) ?_
        refine hκ _ _ ?_; clear hκ hξ ξ κ
        refine rt ?_
        refine retE ?_
        simp +decide only [go_sem, resD, resV, beq_self_eq_true, decide_true, hww, c0, hk, hkl, hlet, hz, hdr, hm1, hd1, hwh, hset, hb55, hdr2, hdr3, hl2n, c1, hch]
        

end Go.Proofs.YtjjkgeeafjagkaaGreat

/- Contain's laws: the widths. Printed by a tool of our own. -/
import Derived.Test.YtinhjbnljbmbcaaGreatY14
namespace Go.Proofs.YtinhjbnljbmbcaaGreat
open Go Go.RowKit
set_option linter.unusedSimpArgs false
set_option linter.unusedVariables false
set_option maxHeartbeats 4000000
set_option maxRecDepth 100000
attribute [local go_sem] List.length_map rowAt_n nrow rowAt_t trow rowAt_i irow
attribute [local go_sem] rowAt_e rowAt_tm rowAt_dc rowAt_ru tmrow dcrow rurow
attribute [local go_sem] rowAt_br rowAt_s rowAt_fo rowAt_ve rowAt_g rowAt_k grow krow srow brrow forow dorow verow
attribute [local go_sem] iD_all iD_len rw2_0 rw2_1 rw1_0 Int.toNat_one
attribute [local go_sem] pl_d33 pl_d34 pl_d35 pl_d36 pl_d37 pl_d38 pl_d39 pl_t33 pl_t34 pl_t35 pl_t36 pl_t37 pl_t38 pl_t39 pl_dlt pl_ge pl_len pl_all iD_len iD_all plR plT List.append_assoc firstS_len Nat.zero_add Int.reduceToNat
theorem law6_w (d : Do) (which w s lg : Int) : PCall Tryz.prog (.func 6) [.ag (dorow d), .int .u8 which, .ag [.int .i64 w, .int .i64 s, .int .i64 lg]] (.bool true) := by
 refine PCall.ok fun hok => ?_
 simp only [okAll, D.ok, okRows, and_true, true_and, lim_eq, inR_i64', inR_i32', inR_u8', inR_u16', inR_u64'] at hok
 have hwh : 0 ≤ which ∧ which ≤ 255 := by have := hok.2.1; omega
 refine PCall.le ?_
 refine fn_ Tryz.func6 (by rfl) (by rfl) (rs := [.tmp 6]) (by rfl) (by simp [Tryz.f6]) ?_
 refine sr_ [1, 3, 5] [3, 5] [] fun κ ξ hκ hξ => ?_
 try simp +decide only [go_sem]
 repeat with_reducible refine an_ ?_
 refine hκ _ _ ?_; clear hκ hξ ξ κ
 refine sr_ [1, 3, 5, 7] [] [] fun κ ξ hκ hξ => ?_
 try simp +decide only [go_sem]
 repeat with_reducible refine an_ ?_
 refine callF (head_w) ?_
 try simp +decide only [go_sem]
 repeat with_reducible refine an_ ?_
 refine hκ _ _ ?_; clear hκ hξ ξ κ
 refine sq ?_
 refine sr_ [1, 3, 5, 7, 24] [] [] fun κ ξ hκ hξ => ?_
 try simp +decide only [go_sem]
 repeat with_reducible refine an_ ?_
 refine callF (usb_w _ _ _ _) ?_
 try simp +decide only [go_sem]
 repeat with_reducible refine an_ ?_
 refine hκ _ _ ?_; clear hκ hξ ξ κ
 refine cd_ (fun c0 => ?_) (fun c0 => ?_)
 ·simp only [go_sem] at c0
  refine sr_ [6] [] [] fun κ ξ hκ hξ => ?_
  try simp +decide only [go_sem, c0]
  repeat with_reducible refine an_ ?_
  refine hκ _ _ ?_; clear hκ hξ ξ κ
  refine rt ?_
  refine retE ?_
  simp +decide only [go_sem, resD, resV, c0]
  all_goals first | rfl | (congr 1; simp only [Bool.or_eq_true, Bool.and_eq_true, decide_eq_true_eq]; simp only [innV, outV, mxI, mnI]; repeat' split; all_goals omega)
 ·simp only [go_sem] at c0
  have c0x := c0
  obtain ⟨⟨hfew, hd⟩, hr⟩ := c0x
  have hT := treB_true.1 (docB_tre hd).1
  have hl1 := hT.len.1
  have hl4 := hT.len.2
  obtain ⟨i, hk, hi⟩ := which_at hwh hl1
  have hi3 : (i : Int) < (d.nodes.length : Int) := by omega
  have hl0 : (d.nodes.length : Int) ≠ 0 := by omega
  have h0i : (0 : Int) ≤ (i : Int) := by omega
  refine sk ?_
  refine srd_ [3, 5, 7, 8] [] [] [] fun κ ξ hκ hξ => ?_
  try simp +decide only [go_sem, c0, hk, hi3, hl0, h0i]
  repeat with_reducible refine an_ ?_
  intro b8 hb8
  try simp +decide only [go_sem, c0, hk, hi3, hl0, h0i, hb8]
  repeat with_reducible refine an_ ?_
  refine hκ _ _ ?_; clear hκ hξ ξ κ
  refine sr_ [3, 5, 7, 8, 9, 10] [] [] fun κ ξ hκ hξ => ?_
  try simp +decide only [go_sem, c0, hk, hi3, hl0, h0i, hb8]
  repeat with_reducible refine an_ ?_
  refine callF (inr_w _ _ _ _ _) ?_
  try simp +decide only [go_sem, c0, hk, hi3, hl0, h0i, hb8]
  repeat with_reducible refine an_ ?_
  refine hκ _ _ ?_; clear hκ hξ ξ κ
  refine sq ?_
  refine sr_ [3, 5, 7, 8, 9, 45] [] [] fun κ ξ hκ hξ => ?_
  try simp +decide only [go_sem, c0, hk, hi3, hl0, h0i, hb8]
  repeat with_reducible refine an_ ?_
  refine hκ _ _ ?_; clear hκ hξ ξ κ
  refine cd_ (fun c1 => ?_) (fun c1 => ?_)
  ·simp only [go_sem] at c1
   have hie := innC_err c1
   refine sr_ [6] [] [(1, 47)] fun κ ξ hκ hξ => ?_
   try simp +decide only [go_sem, c0, hk, hi3, hl0, h0i, hb8, c1, hie]
   repeat with_reducible refine an_ ?_
   refine hκ _ _ ?_; clear hκ hξ ξ κ
   refine rt ?_
   refine retE ?_
   simp +decide only [go_sem, resD, resV, c0, hk, hi3, hl0, h0i, hb8, c1, hie]
   all_goals first | rfl | (congr 1; simp only [Bool.or_eq_true, Bool.and_eq_true, decide_eq_true_eq]; simp only [innV, outV, mxI, mnI]; repeat' split; all_goals omega)
  ·simp only [go_sem] at c1
   obtain ⟨hbl, h2, he⟩ := innC_ok hd hr hi c1
   have hin := innC_of hd hr hi hbl h2 he
   have hsc := styC_of hd hr hi h2
   obtain ⟨_, _, _, hpb, hro⟩ := fnd_ok h2
   have hpb := hpb he
   have hfl := fnd_len d (nat d.nodes i).id w s lg
   obtain ⟨hv0, hw1, hw2⟩ := wid_fin hpb hfl hro
   have hpz := par_zero hT hi
   have hq3 : (List.map iD (List.drop 3 (fndR d (nat d.nodes i).id w s lg).1.st)).headD .top = .int .i64 (iat (fndR d (nat d.nodes i).id w s lg).1.st 3) := hd_i (by omega)
   have hz3 : 1 ≤ (List.drop 3 (fndR d (nat d.nodes i).id w s lg).1.st).length := by rw [List.length_drop]; omega
   have hq4 : (List.map iD (List.drop 4 (fndR d (nat d.nodes i).id w s lg).1.st)).headD .top = .int .i64 (iat (fndR d (nat d.nodes i).id w s lg).1.st 4) := hd_i (by omega)
   have hz4 : 1 ≤ (List.drop 4 (fndR d (nat d.nodes i).id w s lg).1.st).length := by rw [List.length_drop]; omega
   have hq5 : (List.map iD (List.drop 5 (fndR d (nat d.nodes i).id w s lg).1.st)).headD .top = .int .i64 (iat (fndR d (nat d.nodes i).id w s lg).1.st 5) := hd_i (by omega)
   have hz5 : 1 ≤ (List.drop 5 (fndR d (nat d.nodes i).id w s lg).1.st).length := by rw [List.length_drop]; omega
   have hq6 : (List.map iD (List.drop 6 (fndR d (nat d.nodes i).id w s lg).1.st)).headD .top = .int .i64 (iat (fndR d (nat d.nodes i).id w s lg).1.st 6) := hd_i (by omega)
   have hz6 : 1 ≤ (List.drop 6 (fndR d (nat d.nodes i).id w s lg).1.st).length := by rw [List.length_drop]; omega
   have hcl := styC_len d (nat d.nodes i).id w s lg
   have h33 : List.take 33 (fndR d (nat d.nodes i).id w s lg).1.st = (fndR d (nat d.nodes i).id w s lg).1.st := List.take_of_length_le (by omega)
   have h4p := iat_pos hpb (p := 4) (by omega)
   have h5p := iat_pos hpb (p := 5) (by omega)
   have h6p := iat_pos hpb (p := 6) (by omega)
   have h3p := iat_pos hpb (p := 3) (by omega)
   have hv1 := hv0.1
   refine sk ?_
   refine srz_ [(11, [])] [3, 5, 7, 8, 9, 11, 12] [] [] fun κ ξ hκ hξ => ?_
   try simp +decide only [go_sem, c0, hk, hi3, hl0, h0i, hb8, c1, hin, hsc, he, hw1, hw2, hv1, hfl, h33, hq3, hz3, hq4, hz4, hq5, hz5, hq6, hz6]
   repeat with_reducible refine an_ ?_
   refine callF (cst_w _ _ _ _ _) ?_
   try simp +decide only [go_sem, c0, hk, hi3, hl0, h0i, hb8, c1, hin, hsc, he, hw1, hw2, hv1, hfl, h33, hq3, hz3, hq4, hz4, hq5, hz5, hq6, hz6]
   repeat with_reducible refine an_ ?_
   intro b11 hb11
   try simp +decide only [go_sem, c0, hk, hi3, hl0, h0i, hb8, c1, hin, hsc, he, hw1, hw2, hv1, hfl, h33, hq3, hz3, hq4, hz4, hq5, hz5, hq6, hz6, hb11]
   repeat with_reducible refine an_ ?_
   refine hκ _ _ ?_; clear hκ hξ ξ κ
   refine sr_ [3, 5, 7, 8, 9, 11, 12, 13] [] [] fun κ ξ hκ hξ => ?_
   try simp +decide only [go_sem, c0, hk, hi3, hl0, h0i, hb8, c1, hin, hsc, he, hw1, hw2, hv1, hfl, h33, hq3, hz3, hq4, hz4, hq5, hz5, hq6, hz6, hb11]
   repeat with_reducible refine an_ ?_
   refine hκ _ _ ?_; clear hκ hξ ξ κ
   refine sq ?_
   refine sr_ [3, 5, 7, 8, 9, 11, 12, 13, 63] [] [] fun κ ξ hκ hξ => ?_
   try simp +decide only [go_sem, c0, hk, hi3, hl0, h0i, hb8, c1, hin, hsc, he, hw1, hw2, hv1, hfl, h33, hq3, hz3, hq4, hz4, hq5, hz5, hq6, hz6, hb11]
   repeat with_reducible refine an_ ?_
   refine hκ _ _ ?_; clear hκ hξ ξ κ
   refine cd_ (fun c2 => ?_) (fun c2 => ?_)
   ·simp only [go_sem] at c2
    have hp : 0 ≤ pix d.nodes i := by
     rcases Int.lt_or_le (pix d.nodes i) 0 with h | h
     ·exact absurd (hpz.2 (by omega)) c2
     ·exact h
    have hpar := par_id hi hp
    have hij := inn_par hd hr hi hp c1
    refine sr_ [7, 9, 11, 12, 14, 15] [] [] fun κ ξ hκ hξ => ?_
    try simp +decide only [go_sem, c0, hk, hi3, hl0, h0i, hb8, c1, hin, hsc, he, hw1, hw2, hv1, hfl, h33, hq3, hz3, hq4, hz4, hq5, hz5, hq6, hz6, hb11, c2, hpar, hij]
    repeat with_reducible refine an_ ?_
    refine callF (inr_w _ _ _ _ _) ?_
    try simp +decide only [go_sem, c0, hk, hi3, hl0, h0i, hb8, c1, hin, hsc, he, hw1, hw2, hv1, hfl, h33, hq3, hz3, hq4, hz4, hq5, hz5, hq6, hz6, hb11, c2, hpar, hij]
    repeat with_reducible refine an_ ?_
    refine hκ _ _ ?_; clear hκ hξ ξ κ
    refine sq ?_
    refine sr_ [7, 9, 11, 12, 14, 73] [] [] fun κ ξ hκ hξ => ?_
    try simp +decide only [go_sem, c0, hk, hi3, hl0, h0i, hb8, c1, hin, hsc, he, hw1, hw2, hv1, hfl, h33, hq3, hz3, hq4, hz4, hq5, hz5, hq6, hz6, hb11, c2, hpar, hij]
    repeat with_reducible refine an_ ?_
    refine hκ _ _ ?_; clear hκ hξ ξ κ
    refine cd_ (fun c3 => ?_) (fun c3 => ?_)
    ·exfalso
     simp only [go_sem] at c3
    ·skip
     refine sk ?_
     refine rr_ [7, 9, 11, 12, 13] [] [] fun κ ξ hκ hξ => ?_
     try simp +decide only [go_sem, c0, hk, hi3, hl0, h0i, hb8, c1, hin, hsc, he, hw1, hw2, hv1, hfl, h33, hq3, hz3, hq4, hz4, hq5, hz5, hq6, hz6, hb11, c2, hpar, hij, c3]
     repeat with_reducible refine an_ ?_
     refine hκ _ _ ?_; clear hκ hξ ξ κ
     refine sr_ [7, 9, 11, 12, 13, 16] [] [] fun κ ξ hκ hξ => ?_
     try simp +decide only [go_sem, c0, hk, hi3, hl0, h0i, hb8, c1, hin, hsc, he, hw1, hw2, hv1, hfl, h33, hq3, hz3, hq4, hz4, hq5, hz5, hq6, hz6, hb11, c2, hpar, hij, c3]
     repeat with_reducible refine an_ ?_
     refine hκ _ _ ?_; clear hκ hξ ξ κ
     refine sq ?_
     refine sr_ [7, 9, 11, 12, 13, 16, 78] [] [] fun κ ξ hκ hξ => ?_
     try simp +decide only [go_sem, c0, hk, hi3, hl0, h0i, hb8, c1, hin, hsc, he, hw1, hw2, hv1, hfl, h33, hq3, hz3, hq4, hz4, hq5, hz5, hq6, hz6, hb11, c2, hpar, hij, c3]
     repeat with_reducible refine an_ ?_
     refine hκ _ _ ?_; clear hκ hξ ξ κ
     refine cd_ (fun c4 => ?_) (fun c4 => ?_)
     ·try simp only [go_sem] at c4
      refine rr_ [7, 9, 11, 12, 16] [] [] fun κ ξ hκ hξ => ?_
      try simp +decide only [go_sem, c0, hk, hi3, hl0, h0i, hb8, c1, hin, hsc, he, hw1, hw2, hv1, hfl, h33, hq3, hz3, hq4, hz4, hq5, hz5, hq6, hz6, hb11, c2, hpar, hij, c3, c4]
      repeat with_reducible refine an_ ?_
      refine hκ _ _ ?_; clear hκ hξ ξ κ
      refine srd_ [7, 9, 12, 16, 17, 18, 19] [] [] [] fun κ ξ hκ hξ => ?_
      try simp +decide only [go_sem, c0, hk, hi3, hl0, h0i, hb8, c1, hin, hsc, he, hw1, hw2, hv1, hfl, h33, hq3, hz3, hq4, hz4, hq5, hz5, hq6, hz6, hb11, c2, hpar, hij, c3, c4]
      repeat with_reducible refine an_ ?_
      refine hκ _ _ ?_; clear hκ hξ ξ κ
      refine sq ?_
      refine sr_ [7, 9, 12, 16, 17, 18, 19, 98] [] [(3, 90), (6, 93)] fun κ ξ hκ hξ => ?_
      try simp +decide only [go_sem, c0, hk, hi3, hl0, h0i, hb8, c1, hin, hsc, he, hw1, hw2, hv1, hfl, h33, hq3, hz3, hq4, hz4, hq5, hz5, hq6, hz6, hb11, c2, hpar, hij, c3, c4]
      repeat with_reducible refine an_ ?_
      refine hκ _ _ ?_; clear hκ hξ ξ κ
      refine cd_ (fun c5 => ?_) (fun c5 => ?_)
      ·try simp only [go_sem] at c5
       refine rr_ [7, 9, 12, 16, 19] [] [] fun κ ξ hκ hξ => ?_
       try simp +decide only [go_sem, c0, hk, hi3, hl0, h0i, hb8, c1, hin, hsc, he, hw1, hw2, hv1, hfl, h33, hq3, hz3, hq4, hz4, hq5, hz5, hq6, hz6, hb11, c2, hpar, hij, c3, c4, c5]
       repeat with_reducible refine an_ ?_
       refine hκ _ _ ?_; clear hκ hξ ξ κ
       refine sr_ [6] [] [(1, 109), (5, 113), (9, 117), (15, 123), (18, 126)] fun κ ξ hκ hξ => ?_
       try simp +decide only [go_sem, c0, hk, hi3, hl0, h0i, hb8, c1, hin, hsc, he, hw1, hw2, hv1, hfl, h33, hq3, hz3, hq4, hz4, hq5, hz5, hq6, hz6, hb11, c2, hpar, hij, c3, c4, c5]
       repeat with_reducible refine an_ ?_
       refine hκ _ _ ?_; clear hκ hξ ξ κ
       refine rt ?_
       refine retE ?_
       simp +decide only [go_sem, resD, resV, c0, hk, hi3, hl0, h0i, hb8, c1, hin, hsc, he, hw1, hw2, hv1, hfl, h33, hq3, hz3, hq4, hz4, hq5, hz5, hq6, hz6, hb11, c2, hpar, hij, c3, c4, c5]
       all_goals first | rfl | (congr 1; simp only [Bool.or_eq_true, Bool.and_eq_true, decide_eq_true_eq]; simp only [innV, outV, mxI, mnI]; repeat' split; all_goals omega)
      ·try simp only [go_sem] at c5
       refine sr_ [7, 9, 12, 16, 18, 19, 106] [] [(2, 102)] fun κ ξ hκ hξ => ?_
       try simp +decide only [go_sem, c0, hk, hi3, hl0, h0i, hb8, c1, hin, hsc, he, hw1, hw2, hv1, hfl, h33, hq3, hz3, hq4, hz4, hq5, hz5, hq6, hz6, hb11, c2, hpar, hij, c3, c4, c5]
       repeat with_reducible refine an_ ?_
       refine hκ _ _ ?_; clear hκ hξ ξ κ
       refine cd_ (fun c6 => ?_) (fun c6 => ?_)
       ·try simp only [go_sem] at c6
        refine rr_ [7, 9, 12, 16, 19] [] [] fun κ ξ hκ hξ => ?_
        try simp +decide only [go_sem, c0, hk, hi3, hl0, h0i, hb8, c1, hin, hsc, he, hw1, hw2, hv1, hfl, h33, hq3, hz3, hq4, hz4, hq5, hz5, hq6, hz6, hb11, c2, hpar, hij, c3, c4, c5, c6]
        repeat with_reducible refine an_ ?_
        refine hκ _ _ ?_; clear hκ hξ ξ κ
        refine sr_ [6] [] [(1, 109), (5, 113), (9, 117), (15, 123), (18, 126)] fun κ ξ hκ hξ => ?_
        try simp +decide only [go_sem, c0, hk, hi3, hl0, h0i, hb8, c1, hin, hsc, he, hw1, hw2, hv1, hfl, h33, hq3, hz3, hq4, hz4, hq5, hz5, hq6, hz6, hb11, c2, hpar, hij, c3, c4, c5, c6]
        repeat with_reducible refine an_ ?_
        refine hκ _ _ ?_; clear hκ hξ ξ κ
        refine rt ?_
        refine retE ?_
        simp +decide only [go_sem, resD, resV, c0, hk, hi3, hl0, h0i, hb8, c1, hin, hsc, he, hw1, hw2, hv1, hfl, h33, hq3, hz3, hq4, hz4, hq5, hz5, hq6, hz6, hb11, c2, hpar, hij, c3, c4, c5, c6]
        all_goals first | rfl | (congr 1; simp only [Bool.or_eq_true, Bool.and_eq_true, decide_eq_true_eq]; simp only [innV, outV, mxI, mnI]; repeat' split; all_goals omega)
       ·try simp only [go_sem] at c6
        refine sk ?_
        refine sr_ [6] [] [(1, 109), (5, 113), (9, 117), (15, 123), (18, 126)] fun κ ξ hκ hξ => ?_
        try simp +decide only [go_sem, c0, hk, hi3, hl0, h0i, hb8, c1, hin, hsc, he, hw1, hw2, hv1, hfl, h33, hq3, hz3, hq4, hz4, hq5, hz5, hq6, hz6, hb11, c2, hpar, hij, c3, c4, c5, c6]
        repeat with_reducible refine an_ ?_
        refine hκ _ _ ?_; clear hκ hξ ξ κ
        refine rt ?_
        refine retE ?_
        simp +decide only [go_sem, resD, resV, c0, hk, hi3, hl0, h0i, hb8, c1, hin, hsc, he, hw1, hw2, hv1, hfl, h33, hq3, hz3, hq4, hz4, hq5, hz5, hq6, hz6, hb11, c2, hpar, hij, c3, c4, c5, c6]
        all_goals first | rfl | (congr 1; simp only [Bool.or_eq_true, Bool.and_eq_true, decide_eq_true_eq]; simp only [innV, outV, mxI, mnI]; repeat' split; all_goals omega)
     ·try simp only [go_sem] at c4
      refine sk ?_
      refine srd_ [7, 9, 12, 16, 17, 18, 19] [] [] [] fun κ ξ hκ hξ => ?_
      try simp +decide only [go_sem, c0, hk, hi3, hl0, h0i, hb8, c1, hin, hsc, he, hw1, hw2, hv1, hfl, h33, hq3, hz3, hq4, hz4, hq5, hz5, hq6, hz6, hb11, c2, hpar, hij, c3, c4]
      repeat with_reducible refine an_ ?_
      refine hκ _ _ ?_; clear hκ hξ ξ κ
      refine sq ?_
      refine sr_ [7, 9, 12, 16, 17, 18, 19, 98] [] [(3, 90), (6, 93)] fun κ ξ hκ hξ => ?_
      try simp +decide only [go_sem, c0, hk, hi3, hl0, h0i, hb8, c1, hin, hsc, he, hw1, hw2, hv1, hfl, h33, hq3, hz3, hq4, hz4, hq5, hz5, hq6, hz6, hb11, c2, hpar, hij, c3, c4]
      repeat with_reducible refine an_ ?_
      refine hκ _ _ ?_; clear hκ hξ ξ κ
      refine cd_ (fun c7 => ?_) (fun c7 => ?_)
      ·try simp only [go_sem] at c7
       refine rr_ [7, 9, 12, 16, 19] [] [] fun κ ξ hκ hξ => ?_
       try simp +decide only [go_sem, c0, hk, hi3, hl0, h0i, hb8, c1, hin, hsc, he, hw1, hw2, hv1, hfl, h33, hq3, hz3, hq4, hz4, hq5, hz5, hq6, hz6, hb11, c2, hpar, hij, c3, c4, c7]
       repeat with_reducible refine an_ ?_
       refine hκ _ _ ?_; clear hκ hξ ξ κ
       refine sr_ [6] [] [(1, 109), (5, 113), (9, 117), (15, 123), (18, 126)] fun κ ξ hκ hξ => ?_
       try simp +decide only [go_sem, c0, hk, hi3, hl0, h0i, hb8, c1, hin, hsc, he, hw1, hw2, hv1, hfl, h33, hq3, hz3, hq4, hz4, hq5, hz5, hq6, hz6, hb11, c2, hpar, hij, c3, c4, c7]
       repeat with_reducible refine an_ ?_
       refine hκ _ _ ?_; clear hκ hξ ξ κ
       refine rt ?_
       refine retE ?_
       simp +decide only [go_sem, resD, resV, c0, hk, hi3, hl0, h0i, hb8, c1, hin, hsc, he, hw1, hw2, hv1, hfl, h33, hq3, hz3, hq4, hz4, hq5, hz5, hq6, hz6, hb11, c2, hpar, hij, c3, c4, c7]
       all_goals first | rfl | (congr 1; simp only [Bool.or_eq_true, Bool.and_eq_true, decide_eq_true_eq]; simp only [innV, outV, mxI, mnI]; repeat' split; all_goals omega)
      ·try simp only [go_sem] at c7
       refine sr_ [7, 9, 12, 16, 18, 19, 106] [] [(2, 102)] fun κ ξ hκ hξ => ?_
       try simp +decide only [go_sem, c0, hk, hi3, hl0, h0i, hb8, c1, hin, hsc, he, hw1, hw2, hv1, hfl, h33, hq3, hz3, hq4, hz4, hq5, hz5, hq6, hz6, hb11, c2, hpar, hij, c3, c4, c7]
       repeat with_reducible refine an_ ?_
       refine hκ _ _ ?_; clear hκ hξ ξ κ
       refine cd_ (fun c8 => ?_) (fun c8 => ?_)
       ·try simp only [go_sem] at c8
        refine rr_ [7, 9, 12, 16, 19] [] [] fun κ ξ hκ hξ => ?_
        try simp +decide only [go_sem, c0, hk, hi3, hl0, h0i, hb8, c1, hin, hsc, he, hw1, hw2, hv1, hfl, h33, hq3, hz3, hq4, hz4, hq5, hz5, hq6, hz6, hb11, c2, hpar, hij, c3, c4, c7, c8]
        repeat with_reducible refine an_ ?_
        refine hκ _ _ ?_; clear hκ hξ ξ κ
        refine sr_ [6] [] [(1, 109), (5, 113), (9, 117), (15, 123), (18, 126)] fun κ ξ hκ hξ => ?_
        try simp +decide only [go_sem, c0, hk, hi3, hl0, h0i, hb8, c1, hin, hsc, he, hw1, hw2, hv1, hfl, h33, hq3, hz3, hq4, hz4, hq5, hz5, hq6, hz6, hb11, c2, hpar, hij, c3, c4, c7, c8]
        repeat with_reducible refine an_ ?_
        refine hκ _ _ ?_; clear hκ hξ ξ κ
        refine rt ?_
        refine retE ?_
        simp +decide only [go_sem, resD, resV, c0, hk, hi3, hl0, h0i, hb8, c1, hin, hsc, he, hw1, hw2, hv1, hfl, h33, hq3, hz3, hq4, hz4, hq5, hz5, hq6, hz6, hb11, c2, hpar, hij, c3, c4, c7, c8]
        all_goals first | rfl | (congr 1; simp only [Bool.or_eq_true, Bool.and_eq_true, decide_eq_true_eq]; simp only [innV, outV, mxI, mnI]; repeat' split; all_goals omega)
       ·try simp only [go_sem] at c8
        refine sk ?_
        refine sr_ [6] [] [(1, 109), (5, 113), (9, 117), (15, 123), (18, 126)] fun κ ξ hκ hξ => ?_
        try simp +decide only [go_sem, c0, hk, hi3, hl0, h0i, hb8, c1, hin, hsc, he, hw1, hw2, hv1, hfl, h33, hq3, hz3, hq4, hz4, hq5, hz5, hq6, hz6, hb11, c2, hpar, hij, c3, c4, c7, c8]
        repeat with_reducible refine an_ ?_
        refine hκ _ _ ?_; clear hκ hξ ξ κ
        refine rt ?_
        refine retE ?_
        simp +decide only [go_sem, resD, resV, c0, hk, hi3, hl0, h0i, hb8, c1, hin, hsc, he, hw1, hw2, hv1, hfl, h33, hq3, hz3, hq4, hz4, hq5, hz5, hq6, hz6, hb11, c2, hpar, hij, c3, c4, c7, c8]
        all_goals first | rfl | (congr 1; simp only [Bool.or_eq_true, Bool.and_eq_true, decide_eq_true_eq]; simp only [innV, outV, mxI, mnI]; repeat' split; all_goals omega)
   ·simp only [go_sem] at c2
    have hp := hpz.1 c2
    have hrw := room_root hd hr hi hp
    refine sk ?_
    refine sr_ [7, 9, 11, 12, 13, 16] [] [] fun κ ξ hκ hξ => ?_
    try simp +decide only [go_sem, c0, hk, hi3, hl0, h0i, hb8, c1, hin, hsc, he, hw1, hw2, hv1, hfl, h33, hq3, hz3, hq4, hz4, hq5, hz5, hq6, hz6, hb11, c2]
    repeat with_reducible refine an_ ?_
    refine hκ _ _ ?_; clear hκ hξ ξ κ
    refine sq ?_
    refine sr_ [7, 9, 11, 12, 13, 16, 78] [] [] fun κ ξ hκ hξ => ?_
    try simp +decide only [go_sem, c0, hk, hi3, hl0, h0i, hb8, c1, hin, hsc, he, hw1, hw2, hv1, hfl, h33, hq3, hz3, hq4, hz4, hq5, hz5, hq6, hz6, hb11, c2]
    repeat with_reducible refine an_ ?_
    refine hκ _ _ ?_; clear hκ hξ ξ κ
    refine cd_ (fun c9 => ?_) (fun c9 => ?_)
    ·try simp only [go_sem] at c9
     refine rr_ [7, 9, 11, 12, 16] [] [] fun κ ξ hκ hξ => ?_
     try simp +decide only [go_sem, c0, hk, hi3, hl0, h0i, hb8, c1, hin, hsc, he, hw1, hw2, hv1, hfl, h33, hq3, hz3, hq4, hz4, hq5, hz5, hq6, hz6, hb11, c2, c9]
     repeat with_reducible refine an_ ?_
     refine hκ _ _ ?_; clear hκ hξ ξ κ
     refine srd_ [7, 9, 12, 16, 17, 18, 19] [] [] [] fun κ ξ hκ hξ => ?_
     try simp +decide only [go_sem, c0, hk, hi3, hl0, h0i, hb8, c1, hin, hsc, he, hw1, hw2, hv1, hfl, h33, hq3, hz3, hq4, hz4, hq5, hz5, hq6, hz6, hb11, c2, c9]
     repeat with_reducible refine an_ ?_
     refine hκ _ _ ?_; clear hκ hξ ξ κ
     refine sq ?_
     refine sr_ [7, 9, 12, 16, 17, 18, 19, 98] [] [(3, 90), (6, 93)] fun κ ξ hκ hξ => ?_
     try simp +decide only [go_sem, c0, hk, hi3, hl0, h0i, hb8, c1, hin, hsc, he, hw1, hw2, hv1, hfl, h33, hq3, hz3, hq4, hz4, hq5, hz5, hq6, hz6, hb11, c2, c9]
     repeat with_reducible refine an_ ?_
     refine hκ _ _ ?_; clear hκ hξ ξ κ
     refine cd_ (fun c10 => ?_) (fun c10 => ?_)
     ·try simp only [go_sem] at c10
      refine rr_ [7, 9, 12, 16, 19] [] [] fun κ ξ hκ hξ => ?_
      try simp +decide only [go_sem, c0, hk, hi3, hl0, h0i, hb8, c1, hin, hsc, he, hw1, hw2, hv1, hfl, h33, hq3, hz3, hq4, hz4, hq5, hz5, hq6, hz6, hb11, c2, c9, c10]
      repeat with_reducible refine an_ ?_
      refine hκ _ _ ?_; clear hκ hξ ξ κ
      refine sr_ [6] [] [(1, 109), (5, 113), (9, 117), (15, 123), (18, 126)] fun κ ξ hκ hξ => ?_
      try simp +decide only [go_sem, c0, hk, hi3, hl0, h0i, hb8, c1, hin, hsc, he, hw1, hw2, hv1, hfl, h33, hq3, hz3, hq4, hz4, hq5, hz5, hq6, hz6, hb11, c2, c9, c10]
      repeat with_reducible refine an_ ?_
      refine hκ _ _ ?_; clear hκ hξ ξ κ
      refine rt ?_
      refine retE ?_
      simp +decide only [go_sem, resD, resV, c0, hk, hi3, hl0, h0i, hb8, c1, hin, hsc, he, hw1, hw2, hv1, hfl, h33, hq3, hz3, hq4, hz4, hq5, hz5, hq6, hz6, hb11, c2, c9, c10]
      all_goals first | rfl | (congr 1; simp only [Bool.or_eq_true, Bool.and_eq_true, decide_eq_true_eq]; simp only [innV, outV, mxI, mnI]; repeat' split; all_goals omega)
     ·try simp only [go_sem] at c10
      refine sr_ [7, 9, 12, 16, 18, 19, 106] [] [(2, 102)] fun κ ξ hκ hξ => ?_
      try simp +decide only [go_sem, c0, hk, hi3, hl0, h0i, hb8, c1, hin, hsc, he, hw1, hw2, hv1, hfl, h33, hq3, hz3, hq4, hz4, hq5, hz5, hq6, hz6, hb11, c2, c9, c10]
      repeat with_reducible refine an_ ?_
      refine hκ _ _ ?_; clear hκ hξ ξ κ
      refine cd_ (fun c11 => ?_) (fun c11 => ?_)
      ·try simp only [go_sem] at c11
       refine rr_ [7, 9, 12, 16, 19] [] [] fun κ ξ hκ hξ => ?_
       try simp +decide only [go_sem, c0, hk, hi3, hl0, h0i, hb8, c1, hin, hsc, he, hw1, hw2, hv1, hfl, h33, hq3, hz3, hq4, hz4, hq5, hz5, hq6, hz6, hb11, c2, c9, c10, c11]
       repeat with_reducible refine an_ ?_
       refine hκ _ _ ?_; clear hκ hξ ξ κ
       refine sr_ [6] [] [(1, 109), (5, 113), (9, 117), (15, 123), (18, 126)] fun κ ξ hκ hξ => ?_
       try simp +decide only [go_sem, c0, hk, hi3, hl0, h0i, hb8, c1, hin, hsc, he, hw1, hw2, hv1, hfl, h33, hq3, hz3, hq4, hz4, hq5, hz5, hq6, hz6, hb11, c2, c9, c10, c11]
       repeat with_reducible refine an_ ?_
       refine hκ _ _ ?_; clear hκ hξ ξ κ
       refine rt ?_
       refine retE ?_
       simp +decide only [go_sem, resD, resV, c0, hk, hi3, hl0, h0i, hb8, c1, hin, hsc, he, hw1, hw2, hv1, hfl, h33, hq3, hz3, hq4, hz4, hq5, hz5, hq6, hz6, hb11, c2, c9, c10, c11]
       all_goals first | rfl | (congr 1; simp only [Bool.or_eq_true, Bool.and_eq_true, decide_eq_true_eq]; simp only [innV, outV, mxI, mnI]; repeat' split; all_goals omega)
      ·try simp only [go_sem] at c11
       refine sk ?_
       refine sr_ [6] [] [(1, 109), (5, 113), (9, 117), (15, 123), (18, 126)] fun κ ξ hκ hξ => ?_
       try simp +decide only [go_sem, c0, hk, hi3, hl0, h0i, hb8, c1, hin, hsc, he, hw1, hw2, hv1, hfl, h33, hq3, hz3, hq4, hz4, hq5, hz5, hq6, hz6, hb11, c2, c9, c10, c11]
       repeat with_reducible refine an_ ?_
       refine hκ _ _ ?_; clear hκ hξ ξ κ
       refine rt ?_
       refine retE ?_
       simp +decide only [go_sem, resD, resV, c0, hk, hi3, hl0, h0i, hb8, c1, hin, hsc, he, hw1, hw2, hv1, hfl, h33, hq3, hz3, hq4, hz4, hq5, hz5, hq6, hz6, hb11, c2, c9, c10, c11]
       all_goals first | rfl | (congr 1; simp only [Bool.or_eq_true, Bool.and_eq_true, decide_eq_true_eq]; simp only [innV, outV, mxI, mnI]; repeat' split; all_goals omega)
    ·try simp only [go_sem] at c9
     refine sk ?_
     refine srd_ [7, 9, 12, 16, 17, 18, 19] [] [] [] fun κ ξ hκ hξ => ?_
     try simp +decide only [go_sem, c0, hk, hi3, hl0, h0i, hb8, c1, hin, hsc, he, hw1, hw2, hv1, hfl, h33, hq3, hz3, hq4, hz4, hq5, hz5, hq6, hz6, hb11, c2, c9]
     repeat with_reducible refine an_ ?_
     refine hκ _ _ ?_; clear hκ hξ ξ κ
     refine sq ?_
     refine sr_ [7, 9, 12, 16, 17, 18, 19, 98] [] [(3, 90), (6, 93)] fun κ ξ hκ hξ => ?_
     try simp +decide only [go_sem, c0, hk, hi3, hl0, h0i, hb8, c1, hin, hsc, he, hw1, hw2, hv1, hfl, h33, hq3, hz3, hq4, hz4, hq5, hz5, hq6, hz6, hb11, c2, c9]
     repeat with_reducible refine an_ ?_
     refine hκ _ _ ?_; clear hκ hξ ξ κ
     refine cd_ (fun c12 => ?_) (fun c12 => ?_)
     ·try simp only [go_sem] at c12
      refine rr_ [7, 9, 12, 16, 19] [] [] fun κ ξ hκ hξ => ?_
      try simp +decide only [go_sem, c0, hk, hi3, hl0, h0i, hb8, c1, hin, hsc, he, hw1, hw2, hv1, hfl, h33, hq3, hz3, hq4, hz4, hq5, hz5, hq6, hz6, hb11, c2, c9, c12]
      repeat with_reducible refine an_ ?_
      refine hκ _ _ ?_; clear hκ hξ ξ κ
      refine sr_ [6] [] [(1, 109), (5, 113), (9, 117), (15, 123), (18, 126)] fun κ ξ hκ hξ => ?_
      try simp +decide only [go_sem, c0, hk, hi3, hl0, h0i, hb8, c1, hin, hsc, he, hw1, hw2, hv1, hfl, h33, hq3, hz3, hq4, hz4, hq5, hz5, hq6, hz6, hb11, c2, c9, c12]
      repeat with_reducible refine an_ ?_
      refine hκ _ _ ?_; clear hκ hξ ξ κ
      refine rt ?_
      refine retE ?_
      simp +decide only [go_sem, resD, resV, c0, hk, hi3, hl0, h0i, hb8, c1, hin, hsc, he, hw1, hw2, hv1, hfl, h33, hq3, hz3, hq4, hz4, hq5, hz5, hq6, hz6, hb11, c2, c9, c12]
      all_goals first | rfl | (congr 1; simp only [Bool.or_eq_true, Bool.and_eq_true, decide_eq_true_eq]; simp only [innV, outV, mxI, mnI]; repeat' split; all_goals omega)
     ·try simp only [go_sem] at c12
      refine sr_ [7, 9, 12, 16, 18, 19, 106] [] [(2, 102)] fun κ ξ hκ hξ => ?_
      try simp +decide only [go_sem, c0, hk, hi3, hl0, h0i, hb8, c1, hin, hsc, he, hw1, hw2, hv1, hfl, h33, hq3, hz3, hq4, hz4, hq5, hz5, hq6, hz6, hb11, c2, c9, c12]
      repeat with_reducible refine an_ ?_
      refine hκ _ _ ?_; clear hκ hξ ξ κ
      refine cd_ (fun c13 => ?_) (fun c13 => ?_)
      ·try simp only [go_sem] at c13
       refine rr_ [7, 9, 12, 16, 19] [] [] fun κ ξ hκ hξ => ?_
       try simp +decide only [go_sem, c0, hk, hi3, hl0, h0i, hb8, c1, hin, hsc, he, hw1, hw2, hv1, hfl, h33, hq3, hz3, hq4, hz4, hq5, hz5, hq6, hz6, hb11, c2, c9, c12, c13]
       repeat with_reducible refine an_ ?_
       refine hκ _ _ ?_; clear hκ hξ ξ κ
       refine sr_ [6] [] [(1, 109), (5, 113), (9, 117), (15, 123), (18, 126)] fun κ ξ hκ hξ => ?_
       try simp +decide only [go_sem, c0, hk, hi3, hl0, h0i, hb8, c1, hin, hsc, he, hw1, hw2, hv1, hfl, h33, hq3, hz3, hq4, hz4, hq5, hz5, hq6, hz6, hb11, c2, c9, c12, c13]
       repeat with_reducible refine an_ ?_
       refine hκ _ _ ?_; clear hκ hξ ξ κ
       refine rt ?_
       refine retE ?_
       simp +decide only [go_sem, resD, resV, c0, hk, hi3, hl0, h0i, hb8, c1, hin, hsc, he, hw1, hw2, hv1, hfl, h33, hq3, hz3, hq4, hz4, hq5, hz5, hq6, hz6, hb11, c2, c9, c12, c13]
       all_goals first | rfl | (congr 1; simp only [Bool.or_eq_true, Bool.and_eq_true, decide_eq_true_eq]; simp only [innV, outV, mxI, mnI]; repeat' split; all_goals omega)
      ·try simp only [go_sem] at c13
       refine sk ?_
       refine sr_ [6] [] [(1, 109), (5, 113), (9, 117), (15, 123), (18, 126)] fun κ ξ hκ hξ => ?_
       try simp +decide only [go_sem, c0, hk, hi3, hl0, h0i, hb8, c1, hin, hsc, he, hw1, hw2, hv1, hfl, h33, hq3, hz3, hq4, hz4, hq5, hz5, hq6, hz6, hb11, c2, c9, c12, c13]
       repeat with_reducible refine an_ ?_
       refine hκ _ _ ?_; clear hκ hξ ξ κ
       refine rt ?_
       refine retE ?_
       simp +decide only [go_sem, resD, resV, c0, hk, hi3, hl0, h0i, hb8, c1, hin, hsc, he, hw1, hw2, hv1, hfl, h33, hq3, hz3, hq4, hz4, hq5, hz5, hq6, hz6, hb11, c2, c9, c12, c13]
       all_goals first | rfl | (congr 1; simp only [Bool.or_eq_true, Bool.and_eq_true, decide_eq_true_eq]; simp only [innV, outV, mxI, mnI]; repeat' split; all_goals omega)
end Go.Proofs.YtinhjbnljbmbcaaGreat

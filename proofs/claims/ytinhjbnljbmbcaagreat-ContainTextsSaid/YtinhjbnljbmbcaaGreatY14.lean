/- Contain's laws: the head. Printed by a tool of our own. -/
import Derived.Test.YtinhjbnljbmbcaaGreatY13
import Derived.Test.YtinhjbnljbmbcaaGreatY06
import Derived.Test.YtinhjbnljbmbcaaGreatY03
import Derived.Test.YtinhjbnljbmbcaaGreatRows
namespace Go.Proofs.YtinhjbnljbmbcaaGreat
open Go Go.RowKit
set_option linter.unusedSimpArgs false
set_option linter.unusedVariables false
set_option maxHeartbeats 4000000
set_option maxRecDepth 100000
theorem hi1 : PCall Tryz.prog (.func 15) [.ag (dorow eDoc), .int .i64 1, .ag [.int .i64 300, .int .i64 100, .int .i64 0]] (.tup [.int .i64 280, .int .i64 0]) := by have h := inr_w eDoc 1 300 100 0; rw [e_i1] at h; exact h
theorem hi2 : PCall Tryz.prog (.func 15) [.ag (dorow eDoc), .int .i64 2, .ag [.int .i64 300, .int .i64 100, .int .i64 0]] (.tup [.int .i64 130, .int .i64 0]) := by have h := inr_w eDoc 2 300 100 0; rw [e_i2] at h; exact h
theorem hi3 : PCall Tryz.prog (.func 15) [.ag (dorow eDoc), .int .i64 3, .ag [.int .i64 300, .int .i64 100, .int .i64 0]] (.tup [.int .i64 0, .int .i64 25]) := by have h := inr_w eDoc 3 300 100 0; rw [e_i3] at h; exact h
theorem hx3 : PCall Tryz.prog (.func 17) [.ag (dorow eDoc), .int .i64 3, .ag [.int .i64 300, .int .i64 100, .int .i64 0]] (.tup [.int .i64 1, .int .i64 280, .bool true, .int .i64 0]) := by have h := box_w eDoc 3 300 100 0; rw [e_b3] at h; exact h
theorem hx1 : PCall Tryz.prog (.func 17) [.ag (dorow eDoc), .int .i64 1, .ag [.int .i64 300, .int .i64 100, .int .i64 0]] (.tup [.int .i64 0, .int .i64 0, .bool false, .int .i64 0]) := by have h := box_w eDoc 1 300 100 0; rw [e_b1] at h; exact h
theorem hs3 : PCall Tryz.prog (.func 11) [.ag (dorow eDoc), .int .i64 3, .ag [.int .i64 300, .int .i64 100, .int .i64 0]] (.tup [.ag (eS3.map iD), .int .i64 0]) := by have h := cst_w eDoc 3 300 100 0; rw [e_s3] at h; exact h
theorem ht3 : PCall Tryz.prog (.func 11) [.ag (dorow eDoc), .int .i64 3, .ag [.int .i64 320, .int .i64 100, .int .i64 0]] (.tup [.ag (firstS.map iD), .int .i64 0]) := by have h := cst_w eDoc 3 320 100 0; rw [e_t3] at h; exact h
theorem hc1 : PCall Tryz.prog (.func 19) [.ag (dorow eDoc), .ag [.int .i64 300, .int .i64 100, .int .i64 0]] (.int .i64 0) := by have h := cck_w eDoc 300 100 0; rw [e_c1] at h; exact h
theorem hc2 : PCall Tryz.prog (.func 19) [.ag (dorow eBad), .ag [.int .i64 300, .int .i64 100, .int .i64 0]] (.int .i64 21) := by have h := cck_w eBad 300 100 0; rw [e_c2] at h; exact h
theorem hv1 : PCall Tryz.prog (.func 13) [.ag (dorow eDoc)] (.bool true) := by have h := cov_w eDoc; rw [e_doc] at h; exact h
theorem hv0 : PCall Tryz.prog (.func 13) [.ag [.sl 0 [] .nil, .sl 0 [] .nil, .sl 0 [] .nil, .sl 0 [] .nil]] (.bool false) := by
 have h := cov_w do0
 rw [e_nil] at h
 exact h.args ⟨DLe.ag ⟨DLe.nil _ _ _, DLe.nil _ _ _, DLe.nil _ _ _, DLe.nil _ _ _, trivial⟩, trivial⟩
theorem eS3_len : eS3.length = 33 := by simp only [eS3, List.length_cons, List.length_nil]
theorem eS3_1 : (List.map iD (List.drop 1 eS3)).headD .top = .int .i64 130 := by rfl
theorem eF_1 : (List.map iD (List.drop 1 firstS)).headD .top = .int .i64 0 := by rfl
attribute [local go_sem] List.length_map rowAt_n nrow rowAt_t trow rowAt_i irow
attribute [local go_sem] rowAt_e rowAt_tm rowAt_dc rowAt_ru tmrow dcrow rurow
attribute [local go_sem] rowAt_br rowAt_s rowAt_fo rowAt_ve rowAt_g rowAt_k grow krow srow brrow forow dorow verow
attribute [local go_sem] iD_all iD_len rw2_0 rw2_1 rw1_0 Int.toNat_one
attribute [local go_sem] pl_d33 pl_d34 pl_d35 pl_d36 pl_d37 pl_d38 pl_d39 pl_t33 pl_t34 pl_t35 pl_t36 pl_t37 pl_t38 pl_t39 pl_dlt pl_ge pl_len pl_all iD_len iD_all plR plT List.append_assoc firstS_len Nat.zero_add Int.reduceToNat
attribute [local go_sem] rwz rws1 rws2
theorem head_w  : PCall Tryz.prog (.func 9) [] (.bool true) := by
 refine PCall.le ?_
 refine fn_ Tryz.func9 (by rfl) (by rfl) (rs := [.tmp 0]) (by rfl) (by simp [Tryz.f9]) ?_
 refine sr_ [] [] [] fun κ ξ hκ hξ => ?_
 try simp +decide only [go_sem, eS3_len, eS3_1, eF_1]
 repeat with_reducible refine an_ ?_
 refine hκ _ _ ?_; clear hκ hξ ξ κ
 refine srz_ [(1, []), (2, [])] [1, 2] [] [] fun κ ξ hκ hξ => ?_
 try simp +decide only [go_sem, eS3_len, eS3_1, eF_1]
 repeat with_reducible refine an_ ?_
 refine callF (exa_w) ?_
 try simp +decide only [go_sem, eS3_len, eS3_1, eF_1]
 repeat with_reducible refine an_ ?_
 intro b1 hb1
 try simp +decide only [go_sem, eS3_len, eS3_1, eF_1, hb1]
 repeat with_reducible refine an_ ?_
 intro b2 hb2
 try simp +decide only [go_sem, eS3_len, eS3_1, eF_1, hb1, hb2]
 repeat with_reducible refine an_ ?_
 refine hκ _ _ ?_; clear hκ hξ ξ κ
 refine srz_ [(3, [])] [1, 2, 3] [] [] fun κ ξ hκ hξ => ?_
 try simp +decide only [go_sem, eS3_len, eS3_1, eF_1, hb1, hb2]
 repeat with_reducible refine an_ ?_
 intro b3 hb3
 try simp +decide only [go_sem, eS3_len, eS3_1, eF_1, hb1, hb2, hb3]
 repeat with_reducible refine an_ ?_
 refine hκ _ _ ?_; clear hκ hξ ξ κ
 refine srz_ [(4, [])] [1, 2, 3, 4] [] [] fun κ ξ hκ hξ => ?_
 try simp +decide only [go_sem, eS3_len, eS3_1, eF_1, hb1, hb2, hb3]
 repeat with_reducible refine an_ ?_
 intro b4 hb4
 try simp +decide only [go_sem, eS3_len, eS3_1, eF_1, hb1, hb2, hb3, hb4]
 repeat with_reducible refine an_ ?_
 refine hκ _ _ ?_; clear hκ hξ ξ κ
 refine sr_ [1, 2, 3, 4, 5, 6] [] [] fun κ ξ hκ hξ => ?_
 try simp +decide only [go_sem, eS3_len, eS3_1, eF_1, hb1, hb2, hb3, hb4]
 repeat with_reducible refine an_ ?_
 refine callF (hi1) ?_
 try simp +decide only [go_sem, eS3_len, eS3_1, eF_1, hb1, hb2, hb3, hb4]
 repeat with_reducible refine an_ ?_
 refine hκ _ _ ?_; clear hκ hξ ξ κ
 refine sr_ [1, 2, 3, 4, 5, 6, 7, 8] [] [] fun κ ξ hκ hξ => ?_
 try simp +decide only [go_sem, eS3_len, eS3_1, eF_1, hb1, hb2, hb3, hb4]
 repeat with_reducible refine an_ ?_
 refine callF (hi2) ?_
 try simp +decide only [go_sem, eS3_len, eS3_1, eF_1, hb1, hb2, hb3, hb4]
 repeat with_reducible refine an_ ?_
 refine hκ _ _ ?_; clear hκ hξ ξ κ
 refine sr_ [1, 2, 3, 4, 5, 6, 7, 8, 9, 10, 11, 12] [] [] fun κ ξ hκ hξ => ?_
 try simp +decide only [go_sem, eS3_len, eS3_1, eF_1, hb1, hb2, hb3, hb4]
 repeat with_reducible refine an_ ?_
 refine callF (hx3) ?_
 try simp +decide only [go_sem, eS3_len, eS3_1, eF_1, hb1, hb2, hb3, hb4]
 repeat with_reducible refine an_ ?_
 refine hκ _ _ ?_; clear hκ hξ ξ κ
 refine srz_ [(13, [])] [1, 2, 3, 4, 5, 6, 7, 8, 9, 10, 11, 12, 13, 14] [] [] fun κ ξ hκ hξ => ?_
 try simp +decide only [go_sem, eS3_len, eS3_1, eF_1, hb1, hb2, hb3, hb4]
 repeat with_reducible refine an_ ?_
 refine callF (hs3) ?_
 try simp +decide only [go_sem, eS3_len, eS3_1, eF_1, hb1, hb2, hb3, hb4]
 repeat with_reducible refine an_ ?_
 intro b13 hb13
 try simp +decide only [go_sem, eS3_len, eS3_1, eF_1, hb1, hb2, hb3, hb4, hb13]
 repeat with_reducible refine an_ ?_
 refine hκ _ _ ?_; clear hκ hξ ξ κ
 refine srz_ [(15, [])] [1, 2, 3, 5, 6, 7, 8, 9, 10, 11, 12, 13, 14, 15, 16] [] [] fun κ ξ hκ hξ => ?_
 try simp +decide only [go_sem, eS3_len, eS3_1, eF_1, hb1, hb2, hb3, hb4, hb13]
 repeat with_reducible refine an_ ?_
 refine callF (ht3) ?_
 try simp +decide only [go_sem, eS3_len, eS3_1, eF_1, hb1, hb2, hb3, hb4, hb13]
 repeat with_reducible refine an_ ?_
 intro b15 hb15
 try simp +decide only [go_sem, eS3_len, eS3_1, eF_1, hb1, hb2, hb3, hb4, hb13, hb15]
 repeat with_reducible refine an_ ?_
 refine hκ _ _ ?_; clear hκ hξ ξ κ
 refine sr_ [1, 2, 3, 5, 6, 7, 8, 9, 10, 11, 12, 13, 14, 15, 16, 18] [] [] fun κ ξ hκ hξ => ?_
 try simp +decide only [go_sem, eS3_len, eS3_1, eF_1, hb1, hb2, hb3, hb4, hb13, hb15]
 repeat with_reducible refine an_ ?_
 refine callF (hi3) ?_
 try simp +decide only [go_sem, eS3_len, eS3_1, eF_1, hb1, hb2, hb3, hb4, hb13, hb15]
 repeat with_reducible refine an_ ?_
 refine hκ _ _ ?_; clear hκ hξ ξ κ
 refine sr_ [1, 2, 3, 5, 6, 7, 8, 9, 10, 11, 12, 13, 14, 15, 16, 18, 21, 22] [] [] fun κ ξ hκ hξ => ?_
 try simp +decide only [go_sem, eS3_len, eS3_1, eF_1, hb1, hb2, hb3, hb4, hb13, hb15]
 repeat with_reducible refine an_ ?_
 refine callF (hx1) ?_
 try simp +decide only [go_sem, eS3_len, eS3_1, eF_1, hb1, hb2, hb3, hb4, hb13, hb15]
 repeat with_reducible refine an_ ?_
 refine hκ _ _ ?_; clear hκ hξ ξ κ
 refine sr_ [1, 2, 3, 5, 7, 9, 10, 11, 13, 15, 21, 23] [] [(2, 78), (6, 82), (10, 86), (14, 90), (18, 94), (22, 98)] fun κ ξ hκ hξ => ?_
 try simp +decide only [go_sem, eS3_len, eS3_1, eF_1, hb1, hb2, hb3, hb4, hb13, hb15]
 repeat with_reducible refine an_ ?_
 refine hκ _ _ ?_; clear hκ hξ ξ κ
 refine sr_ [1, 2, 3, 23] [] [(1, 103), (5, 107), (9, 111), (13, 115), (17, 119), (20, 122), (24, 126), (29, 131)] fun κ ξ hκ hξ => ?_
 try simp +decide only [go_sem, eS3_len, eS3_1, eF_1, hb1, hb2, hb3, hb4, hb13, hb15]
 repeat with_reducible refine an_ ?_
 refine hκ _ _ ?_; clear hκ hξ ξ κ
 refine sr_ [0] [] [(1, 137), (7, 143), (13, 149), (17, 153)] fun κ ξ hκ hξ => ?_
 try simp +decide only [go_sem, eS3_len, eS3_1, eF_1, hb1, hb2, hb3, hb4, hb13, hb15]
 repeat with_reducible refine an_ ?_
 refine vo_gc ?_
 try simp +decide only [go_sem, eS3_len, eS3_1, eF_1, hb1, hb2, hb3, hb4, hb13, hb15]
 refine gcF (hc1) ?_
 try simp +decide only [go_sem, eS3_len, eS3_1, eF_1, hb1, hb2, hb3, hb4, hb13, hb15]
 repeat with_reducible refine an_ ?_
 refine vo_gc ?_
 try simp +decide only [go_sem, eS3_len, eS3_1, eF_1, hb1, hb2, hb3, hb4, hb13, hb15]
 refine gcF (hc2) ?_
 try simp +decide only [go_sem, eS3_len, eS3_1, eF_1, hb1, hb2, hb3, hb4, hb13, hb15]
 repeat with_reducible refine an_ ?_
 refine vo_gc ?_
 try simp +decide only [go_sem, eS3_len, eS3_1, eF_1, hb1, hb2, hb3, hb4, hb13, hb15]
 refine gcF (hv1) ?_
 try simp +decide only [go_sem, eS3_len, eS3_1, eF_1, hb1, hb2, hb3, hb4, hb13, hb15]
 repeat with_reducible refine an_ ?_
 refine vo_gc ?_
 try simp +decide only [go_sem, eS3_len, eS3_1, eF_1, hb1, hb2, hb3, hb4, hb13, hb15]
 refine gcF (hv0) ?_
 try simp +decide only [go_sem, eS3_len, eS3_1, eF_1, hb1, hb2, hb3, hb4, hb13, hb15]
 repeat with_reducible refine an_ ?_
 refine hκ _ _ ?_; clear hκ hξ ξ κ
 refine rt ?_
 refine retE ?_
 simp +decide only [go_sem, resD, resV, eS3_len, eS3_1, eF_1, hb1, hb2, hb3, hb4, hb13, hb15]
 
end Go.Proofs.YtinhjbnljbmbcaaGreat
/- Contain, plain: for the laws. -/
namespace Go.Proofs.YtinhjbnljbmbcaaGreat
open Go Go.RowKit
set_option linter.unusedSimpArgs false
set_option linter.unusedVariables false
set_option maxRecDepth 100000
section
variable {d : Do} {w s lg : Int}
theorem styC_len (d : Do) (x w s lg : Int) : (styC d x w s lg).1.length = 33 := by
 unfold styC
 split
 ·rfl
 ·split
  ·rfl
  ·exact fnd_len d x w s lg
theorem firstS_end : firstS.drop 33 = [] := rfl
theorem which_at {which : Int} {n : Nat} (h : 0 ≤ which ∧ which ≤ 255) (hn : 1 ≤ n) : ∃ i : Nat, (IntKind.wrap .i64 which).tmod (n : Int) = i ∧ i < n := by
 rw [w64 (n := which) (by omega), Int.tmod_eq_emod_of_nonneg h.1]
 have h1 := Int.emod_nonneg which (b := (n : Int)) (by omega)
 have h2 := Int.emod_lt_of_pos which (b := (n : Int)) (by omega)
 exact ⟨(which % (n : Int)).toNat, by omega, by omega⟩
theorem par_id {l : List Nd} {i : Nat} (hi : i < l.length) (h : 0 ≤ pix l i) : (nat l i).par = (nat l (pix l i).toNat).id := by
 unfold pix at h ⊢
 rcases idx_cases (l.take i) (nat l i).par with ⟨y, h1, h2, _, h3⟩ | ⟨_, h3⟩
 ·rw [List.length_take] at h1
  rw [h3, Int.toNat_natCast, ← h2, nat_take (by omega)]
 ·omega
theorem room_root {i : Nat} (hd : docB d = true) (hr : rdB w s lg = true) (hi : i < d.nodes.length) (h : ¬ 0 ≤ pix d.nodes i) : (fndR d (nat d.nodes i).id w s lg).1.room = w := by
 rw [fnd_root hd hr hi h]; rfl
/-- The parent of a node that is reached. -/
theorem up_ok {i : Nat} (hd : docB d = true) (hr : rdB w s lg = true) (hi : i < d.nodes.length) (hp : 0 ≤ pix d.nodes i) (h2 : (fndR d (nat d.nodes i).id w s lg).2 = 0) : (fndR d (nat d.nodes (pix d.nodes i).toNat).id w s lg).2 = 0 ∧ (fndR d (nat d.nodes (pix d.nodes i).toNat).id w s lg).1.e = 0 ∧ NG d w s lg (pix d.nodes i).toNat ∧ fndR d (nat d.nodes i).id w s lg = (plStep d w s lg (plNext (fndR d (nat d.nodes (pix d.nodes i).toNat).id w s lg).1) (nat d.nodes i).id, 0) := by
 have hj := pix_lt' hp
 have hfu := fnd_up hd hr hi hp
 by_cases hc : (fndR d (nat d.nodes (pix d.nodes i).toNat).id w s lg).2 = 0 ∧ (fndR d (nat d.nodes (pix d.nodes i).toNat).id w s lg).1.e = 0
 ·rw [if_pos hc] at hfu
  rcases fnd_all hd hr _ (show (pix d.nodes i).toNat < d.nodes.length by omega) with ⟨_, hg⟩ | h3
  ·exact ⟨hc.1, hc.2, hg, hfu⟩
  ·rw [h3] at hc; exact absurd hc.1 (by simp)
 ·rw [if_neg hc] at hfu
  rw [hfu] at h2
  simp at h2
theorem up_bad {i : Nat} (hd : docB d = true) (hr : rdB w s lg = true) (hi : i < d.nodes.length) (hp : 0 ≤ pix d.nodes i) (h : (styC d (nat d.nodes (pix d.nodes i).toNat).id w s lg).2 ≠ 0) : styC d (nat d.nodes (pix d.nodes i).toNat).id w s lg = (zS, 3) ∧ styC d (nat d.nodes i).id w s lg = (zS, 3) := by
 have hj := pix_lt' hp
 have hfu := fnd_up hd hr hi hp
 rcases fnd_all hd hr _ (show (pix d.nodes i).toNat < d.nodes.length by omega) with ⟨h2, hg⟩ | h3
 ·have hs := styC_of hd hr (show (pix d.nodes i).toNat < d.nodes.length by omega) h2
  rw [hs] at h ⊢
  rw [if_neg (fun hc => h hc.2)] at hfu
  refine ⟨?_, styC_bad hfu⟩
  have he := hg.e.resolve_left h
  rw [hg.out h, he]
 ·rw [h3] at hfu
  rw [if_neg (fun hc => by have := hc.1; simp at this)] at hfu
  exact ⟨styC_bad h3, styC_bad hfu⟩
theorem inn_par {i : Nat} (hd : docB d = true) (hr : rdB w s lg = true) (hi : i < d.nodes.length) (hp : 0 ≤ pix d.nodes i) (h : (innC d (nat d.nodes i).id w s lg).2 = 0) : innC d (nat d.nodes (pix d.nodes i).toNat).id w s lg = ((fndR d (nat d.nodes i).id w s lg).1.room, 0) := by
 have hT := treB_true.1 (docB_tre hd).1
 have hj := pix_lt' hp
 obtain ⟨hb, h2, he⟩ := innC_ok hd hr hi h
 obtain ⟨j2, je, jg, jf⟩ := up_ok hd hr hi hp h2
 have hbj : blkB d (nat d.nodes (pix d.nodes i).toNat).id = true := by
  rw [blk_up hT hi hp, Bool.and_eq_true] at hb; exact hb.1
 rw [innC_of hd hr (by omega) hbj j2 je, jf]
 congr 1
 show _ = (plNext _).room
 unfold plNext
 rw [if_pos (jg.own.trans hbj)]
 split <;> rfl
theorem wid_fin {st : List Int} {room : Int} (h : parB st = true) (hl : st.length = 33) (hr : 0 ≤ room ∧ room ≤ 1000000) :
  (0 ≤ innV st room ∧ innV st room ≤ 1000000) ∧ IntKind.wrap .i64 (2 * iat st 3) = 2 * iat st 3 ∧ IntKind.wrap .i64 (innV st room + 2 * iat st 3) = innV st room + 2 * iat st 3 := by
 have h1 := innV_lim h hl hr
 have h3 := iat_pos h (p := 3) (by omega)
 exact ⟨h1, w64 (by omega), w64 (by omega)⟩
theorem deq_i {P : Program} {t : TypeId} (ht : (ink P t).isSome = true) : ∀ {a b : List Int}, a.length = b.length → deqF P (List.replicate a.length t) (a.map iD) (b.map iD) = some (decide (a = b))
 | [], [], _ => rfl
 | x :: a, y :: b, h => by
  have ih := deq_i ht (a := a) (b := b) (by simpa using h)
  simp only [List.length_cons, List.replicate_succ, List.map_cons, deqF, iD, deq1]
  rw [if_pos ⟨ht, trivial⟩]
  have ih' : deqF P (List.replicate a.length t) (List.map (fun n => D.int .i64 n) a) (List.map (fun n => D.int .i64 n) b) = some (decide (a = b)) := ih
  show (match some (decide (x = y)), deqF P (List.replicate a.length t) (List.map iD a) (List.map iD b) with | some p, some q => some (p && q) | _, _ => none) = _
  rw [ih]
  simp only [Option.some.injEq]
  by_cases h1 : x = y <;> by_cases h2 : a = b <;> simp [h1, h2]
 | [], _ :: _, h => by simp at h
 | _ :: _, [], h => by simp at h
theorem deq33 {a b : List Int} (ha : a.length = 33) (hb : b.length = 33) : deqF Tryz.prog (List.replicate 33 3) (a.map iD) (b.map iD) = some (decide (a = b)) := by
 have := deq_i (P := Tryz.prog) (t := 3) (by kernel_rfl) (ha.trans hb.symm)
 rwa [ha] at this
/-! ### Styles -/
theorem reach {i : Nat} (hd : docB d = true) (hr : rdB w s lg = true) (hi : i < d.nodes.length) (hp : 0 ≤ pix d.nodes i) (h : (styC d (nat d.nodes (pix d.nodes i).toNat).id w s lg).2 = 0) :
  fndR d (nat d.nodes i).id w s lg = (plStep d w s lg (plNext (fndR d (nat d.nodes (pix d.nodes i).toNat).id w s lg).1) (nat d.nodes i).id, 0) ∧ (styC d (nat d.nodes (pix d.nodes i).toNat).id w s lg).1 = (plNext (fndR d (nat d.nodes (pix d.nodes i).toNat).id w s lg).1).st ∧ (plNext (fndR d (nat d.nodes (pix d.nodes i).toNat).id w s lg).1).st.length = 33 := by
 have hj := pix_lt' hp
 have hfu := fnd_up hd hr hi hp
 rcases fnd_all hd hr _ (show (pix d.nodes i).toNat < d.nodes.length by omega) with ⟨h2, hg⟩ | h3
 ·have hs := styC_of hd hr (show (pix d.nodes i).toNat < d.nodes.length by omega) h2
  rw [hs] at h
  have h : (fndR d (nat d.nodes (pix d.nodes i).toNat).id w s lg).1.e = 0 := h
  rw [if_pos ⟨h2, h⟩] at hfu
  exact ⟨hfu, by rw [hs, plNext_st], by rw [plNext_st]; exact fnd_len ..⟩
 ·rw [styC_bad h3] at h; simp at h
theorem sty_step {i : Nat} {q : Pl} (hd : docB d = true) (hr : rdB w s lg = true) (hi : i < d.nodes.length) (h : fndR d (nat d.nodes i).id w s lg = (plStep d w s lg q (nat d.nodes i).id, 0)) : styC d (nat d.nodes i).id w s lg = styR d.nodes d.rules (nat d.nodes i).id w s lg q.st q.room q.wide := by
 rw [styC_of hd hr hi (by rw [h]), h]; rfl
theorem box_fact {i : Nat} {q : Pl} (hd : docB d = true) (hr : rdB w s lg = true) (hi : i < d.nodes.length) (h : fndR d (nat d.nodes i).id w s lg = (plStep d w s lg q (nat d.nodes i).id, 0)) : (boxC d (nat d.nodes i).id w s lg).2.2.2 = 0 ∧ ((boxC d (nat d.nodes i).id w s lg).2.2.1 = true → (boxC d (nat d.nodes i).id w s lg).2.1 = q.wide) ∧ ((boxC d (nat d.nodes i).id w s lg).2.2.1 = false → q.wide = -1) := by
 rcases fnd_all hd hr i hi with ⟨h2, hg⟩ | h3
 ·have hn := hg.none
  unfold boxC
  rw [h] at hn ⊢
  by_cases hb : q.box = 0
  ·have hc : ((plStep d w s lg q (nat d.nodes i).id, (0 : Int)).2 ≠ 0 ∨ (plStep d w s lg q (nat d.nodes i).id, (0 : Int)).1.box = 0) := .inr hb
   rw [if_pos hc]
   exact ⟨rfl, fun h => by simp at h, fun _ => hn hb⟩
  ·have hc : ¬ ((plStep d w s lg q (nat d.nodes i).id, (0 : Int)).2 ≠ 0 ∨ (plStep d w s lg q (nat d.nodes i).id, (0 : Int)).1.box = 0) := fun hc => hc.elim (fun h => h rfl) hb
   rw [if_neg hc]
   exact ⟨rfl, fun _ => rfl, fun h => by simp at h⟩
 ·rw [h] at h3; simp at h3
theorem rm_drop {l : List Nat} {m c : Nat} (h : l[m]? = some c) : rmC d w s lg (l.drop m) = if (innC d (nat d.nodes c).id w s lg).2 = 0 then (innC d (nat d.nodes c).id w s lg).1 else rmC d w s lg (l.drop (m + 1)) := by
 obtain ⟨hm, e⟩ := List.getElem?_eq_some_iff.1 h
 rw [List.drop_eq_getElem_cons hm, e, rmC]
end
end Go.Proofs.YtinhjbnljbmbcaaGreat
/- The arguments of contain's laws, as plain data. -/
namespace Go.Proofs.YtinhjbnljbmbcaaGreat
open Go Go.RowKit Go.ChangeShapes Go.WideShapes
set_option linter.unusedSimpArgs false
set_option linter.unusedVariables false
set_option linter.constructorNameAsVariable false
set_option maxRecDepth 100000
theorem own_ : ownKnob Tryz.prog.godebug = none := by kernel_rfl
theorem laidOut_ : laidOutB Tryz.prog = true := by kernel_rfl
section
variable {n : Nat} {t e : TypeId} {k : IntKind} {ds : List D}
theorem sh_int (ht : Tryz.prog.underlying t = some (.int k)) (h : Sh Tryz.prog n t ds) : ∃ x, ds = [.int k x] := by
 cases n with
 | zero => exact h.elim
 | succ n => simpa only [Sh, ht] using h
theorem sh_str (ht : Tryz.prog.underlying t = some .string) (h : Sh Tryz.prog n t ds) : ∃ s, ds = [.str s] := by
 cases n with
 | zero => exact h.elim
 | succ n => simpa only [Sh, ht] using h
theorem sh_bool (ht : Tryz.prog.underlying t = some .bool) (h : Sh Tryz.prog n t ds) : ∃ s, ds = [.bool s] := by
 cases n with
 | zero => exact h.elim
 | succ n => simpa only [Sh, ht] using h
theorem sh_list {α : Type} {row : α → List D} {sz : Nat} (ht : Tryz.prog.underlying t = some (.slice e)) (hc : Tryz.prog.cellsOf e = sz) (hrow : ∀ m ds, Sh Tryz.prog m e ds → ∃ x, ds = row x) (h : Sh Tryz.prog n t ds) : ∃ l : List α, ds = [.sl sz (l.map row) .no] := by
 cases n with
 | zero => exact h.elim
 | succ n =>
  simp only [Sh, ht, hc] at h
  obtain ⟨rows, rfl, h⟩ := h
  obtain ⟨l, rfl⟩ := sh_rows (fun ds h => hrow n ds h) h
  exact ⟨l, rfl⟩
end
theorem cells3 : Tryz.prog.cellsOf 107 = 3 := by kernel_rfl
theorem sh_node (n : Nat) (ds : List D) (h : Sh Tryz.prog n 45 ds) : ∃ x : Nd, ds = nrow x := by
 cases n with
 | zero => exact h.elim
 | succ n =>
  simp only [Sh, Tryz.underlying45, ShF] at h
  obtain ⟨_, _, rfl, ha, _, _, rfl, hb, _, _, rfl, hc, _, _, rfl, hd, _, _, rfl, he, rfl⟩ := h
  obtain ⟨a, rfl⟩ := sh_int Tryz.underlying3 ha
  obtain ⟨b, rfl⟩ := sh_int Tryz.underlying3 hb
  obtain ⟨c, rfl⟩ := sh_int Tryz.underlying3 hc
  obtain ⟨d, rfl⟩ := sh_int Tryz.underlying3 hd
  obtain ⟨e, rfl⟩ := sh_str Tryz.underlying9 he
  exact ⟨⟨a, b, c, d, e⟩, rfl⟩
theorem sh_test (n : Nat) (ds : List D) (h : Sh Tryz.prog n 117 ds) : ∃ x : Ts, ds = trow x := by
 cases n with
 | zero => exact h.elim
 | succ n =>
  simp only [Sh, Tryz.underlying117, ShF] at h
  obtain ⟨_, _, rfl, ha, _, _, rfl, hb, _, _, rfl, hc, _, _, rfl, hd, rfl⟩ := h
  obtain ⟨a, rfl⟩ := sh_int Tryz.underlying3 ha
  obtain ⟨b, rfl⟩ := sh_int Tryz.underlying3 hb
  obtain ⟨c, rfl⟩ := sh_int Tryz.underlying3 hc
  obtain ⟨d, rfl⟩ := sh_bool Tryz.underlying4 hd
  exact ⟨⟨a, b, c, d⟩, rfl⟩
theorem sh_term (n : Nat) (ds : List D) (h : Sh Tryz.prog n 120 ds) : ∃ x : Tm, ds = tmrow x := by
 cases n with
 | zero => exact h.elim
 | succ n =>
  simp only [Sh, Tryz.underlying120, ShF] at h
  obtain ⟨_, _, rfl, ha, _, _, rfl, hb, rfl⟩ := h
  obtain ⟨a, rfl⟩ := sh_int Tryz.underlying3 ha
  obtain ⟨b, rfl⟩ := sh_int Tryz.underlying3 hb
  exact ⟨⟨a, b⟩, rfl⟩
theorem sh_ex : ∀ (n : Nat) (ds : List D), Sh Tryz.prog n 107 ds → ∃ x : Ex, ds = [.int .i64 x.op, .int .i64 x.num, .sl 3 (x.kids.map erow) .no]
 | 0, _, h => h.elim
 | 1, _, h => by
  simp only [Sh, Tryz.underlying107, ShF] at h
  obtain ⟨_, _, _, ha, _⟩ := h
  exact ha.elim
 | n + 2, ds, h => by
  have ih := sh_ex n
  rw [Sh] at h
  simp only [Tryz.underlying107, ShF] at h
  obtain ⟨_, _, rfl, ha, _, _, rfl, hb, _, _, rfl, hc, rfl⟩ := h
  obtain ⟨a, rfl⟩ := sh_int Tryz.underlying3 ha
  obtain ⟨b, rfl⟩ := sh_int Tryz.underlying3 hb
  simp only [Sh, Tryz.underlying105, cells3] at hc
  obtain ⟨rows, rfl, hc⟩ := hc
  obtain ⟨l, rfl⟩ := sh_rows (f := erow) (fun ds h => by obtain ⟨x, e⟩ := ih ds h; exact ⟨x, e.trans (erow_eq x).symm⟩) hc
  exact ⟨.mk a b l, rfl⟩
theorem sh_decl (n : Nat) (ds : List D) (h : Sh Tryz.prog n 109 ds) : ∃ x : Dc, ds = dcrow x := by
 cases n with
 | zero => exact h.elim
 | succ n =>
  simp only [Sh, Tryz.underlying109, ShF] at h
  obtain ⟨_, _, rfl, ha, _, _, rfl, hb, rfl⟩ := h
  obtain ⟨a, rfl⟩ := sh_int Tryz.underlying3 ha
  obtain ⟨b, rfl⟩ := sh_ex _ _ hb
  exact ⟨⟨a, b⟩, rfl⟩
theorem c126 : Tryz.prog.cellsOf 117 = 4 := by kernel_rfl
theorem c128 : Tryz.prog.cellsOf 120 = 2 := by kernel_rfl
theorem c109 : Tryz.prog.cellsOf 109 = 4 := by kernel_rfl
theorem c67 : Tryz.prog.cellsOf 45 = 5 := by kernel_rfl
theorem c96 : Tryz.prog.cellsOf 114 = 4 := by kernel_rfl
theorem c87 : Tryz.prog.cellsOf 132 = 2 := by kernel_rfl
theorem c89 : Tryz.prog.cellsOf 134 = 3 := by kernel_rfl
theorem c62 : Tryz.prog.cellsOf 60 = 2 := by kernel_rfl
theorem c9 : Tryz.prog.cellsOf 9 = 1 := by kernel_rfl
theorem c65 : Tryz.prog.cellsOf 63 = 3 := by kernel_rfl
theorem sh_rule (n : Nat) (ds : List D) (h : Sh Tryz.prog n 114 ds) : ∃ x : Ru, ds = rurow x := by
 cases n with
 | zero => exact h.elim
 | succ n =>
  simp only [Sh, Tryz.underlying114, ShF] at h
  obtain ⟨_, _, rfl, ha, _, _, rfl, hb, _, _, rfl, hc, _, _, rfl, hd, rfl⟩ := h
  obtain ⟨a, rfl⟩ := sh_int Tryz.underlying3 ha
  obtain ⟨b, rfl⟩ := sh_list Tryz.underlying110 c126 sh_test hb
  obtain ⟨c, rfl⟩ := sh_list Tryz.underlying111 c128 sh_term hc
  obtain ⟨d, rfl⟩ := sh_list Tryz.underlying112 c109 sh_decl hd
  exact ⟨⟨a, b, c, d⟩, rfl⟩
theorem sh_glyph (n : Nat) (ds : List D) (h : Sh Tryz.prog n 132 ds) : ∃ x : Gl, ds = grow x := by
 cases n with
 | zero => exact h.elim
 | succ n =>
  simp only [Sh, Tryz.underlying132, ShF] at h
  obtain ⟨_, _, rfl, ha, _, _, rfl, hb, rfl⟩ := h
  obtain ⟨a, rfl⟩ := sh_int Tryz.underlying5 ha
  obtain ⟨b, rfl⟩ := sh_int Tryz.underlying3 hb
  exact ⟨(a, b), rfl⟩
theorem sh_kern (n : Nat) (ds : List D) (h : Sh Tryz.prog n 134 ds) : ∃ x : Kn, ds = krow x := by
 cases n with
 | zero => exact h.elim
 | succ n =>
  simp only [Sh, Tryz.underlying134, ShF] at h
  obtain ⟨_, _, rfl, ha, _, _, rfl, hb, _, _, rfl, hc, rfl⟩ := h
  obtain ⟨a, rfl⟩ := sh_int Tryz.underlying5 ha
  obtain ⟨b, rfl⟩ := sh_int Tryz.underlying5 hb
  obtain ⟨c, rfl⟩ := sh_int Tryz.underlying3 hc
  exact ⟨(a, b, c), rfl⟩
theorem sh_font (n : Nat) (ds : List D) (h : Sh Tryz.prog n 60 ds) : ∃ x : Fo, ds = forow x := by
 cases n with
 | zero => exact h.elim
 | succ n =>
  simp only [Sh, Tryz.underlying60, ShF] at h
  obtain ⟨_, _, rfl, ha, _, _, rfl, hb, rfl⟩ := h
  obtain ⟨a, rfl⟩ := sh_list Tryz.underlying57 c87 sh_glyph ha
  obtain ⟨b, rfl⟩ := sh_list Tryz.underlying58 c89 sh_kern hb
  exact ⟨⟨a, b⟩, rfl⟩
theorem sh_breaks (n : Nat) (ds : List D) (h : Sh Tryz.prog n 63 ds) : ∃ x : Br, ds = brrow x := by
 cases n with
 | zero => exact h.elim
 | succ n =>
  simp only [Sh, Tryz.underlying63, ShF] at h
  obtain ⟨_, _, rfl, ha, _, _, rfl, hb, _, _, rfl, hc, rfl⟩ := h
  obtain ⟨a, rfl⟩ := sh_int Tryz.underlying3 ha
  obtain ⟨b, rfl⟩ := sh_int Tryz.underlying3 hb
  obtain ⟨c, rfl⟩ := sh_list Tryz.underlying61 c9 (row := srow) (fun m ds h => sh_str Tryz.underlying9 h) hc
  exact ⟨⟨a, b, c⟩, rfl⟩
theorem sh_doc (n : Nat) (ds : List D) (h : Sh Tryz.prog n 27 ds) : ∃ x : Do, ds = dorow x := by
 cases n with
 | zero => exact h.elim
 | succ n =>
  simp only [Sh, Tryz.underlying27, ShF] at h
  obtain ⟨_, _, rfl, ha, _, _, rfl, hb, _, _, rfl, hc, _, _, rfl, hd, rfl⟩ := h
  obtain ⟨a, rfl⟩ := sh_list Tryz.underlying22 c67 sh_node ha
  obtain ⟨b, rfl⟩ := sh_list Tryz.underlying23 c96 sh_rule hb
  obtain ⟨c, rfl⟩ := sh_list Tryz.underlying24 c62 sh_font hc
  obtain ⟨d, rfl⟩ := sh_list Tryz.underlying25 c65 sh_breaks hd
  exact ⟨⟨a, b, c, d⟩, rfl⟩
theorem argD_doc {n : Nat} {d : D} (h : ArgD Tryz.prog n 27 d) : ∃ x : Do, d = .ag (dorow x) := by
 simp only [ArgD, Tryz.underlying27] at h
 obtain ⟨cs, rfl, h⟩ := h
 obtain ⟨x, rfl⟩ := sh_doc _ _ h
 exact ⟨x, rfl⟩
theorem argD_int {n : Nat} {t : TypeId} {k : IntKind} (ht : Tryz.prog.underlying t = some (.int k)) {d : D} (h : ArgD Tryz.prog n t d) : ∃ x, d = .int k x := by
 simp only [ArgD, ht] at h
 obtain ⟨x, e⟩ := sh_int ht h
 exact ⟨x, by simpa using e⟩
theorem sh_reader (n : Nat) (ds : List D) (h : Sh Tryz.prog n 29 ds) : ∃ a b c : Int, ds = [.int .i64 a, .int .i64 b, .int .i64 c] := by
 cases n with
 | zero => exact h.elim
 | succ n =>
  simp only [Sh, Tryz.underlying29, ShF] at h
  obtain ⟨_, _, rfl, ha, _, _, rfl, hb, _, _, rfl, hc, rfl⟩ := h
  obtain ⟨a, rfl⟩ := sh_int Tryz.underlying3 ha
  obtain ⟨b, rfl⟩ := sh_int Tryz.underlying3 hb
  obtain ⟨c, rfl⟩ := sh_int Tryz.underlying3 hc
  exact ⟨a, b, c, rfl⟩
theorem argD_reader {n : Nat} {d : D} (h : ArgD Tryz.prog n 29 d) : ∃ x : Int × Int × Int, d = .ag [.int .i64 x.1, .int .i64 x.2.1, .int .i64 x.2.2] := by
 simp only [ArgD, Tryz.underlying29] at h
 obtain ⟨cs, rfl, h⟩ := h
 obtain ⟨a, b, c, rfl⟩ := sh_reader _ _ h
 exact ⟨(a, b, c), rfl⟩
theorem argD_fonts {n : Nat} {d : D} (h : ArgD Tryz.prog n 24 d) : ∃ l : List Fo, d = .sl 2 (l.map forow) .no := by
 simp only [ArgD, Tryz.underlying24] at h
 obtain ⟨l, e⟩ := sh_list Tryz.underlying24 c62 sh_font h
 exact ⟨l, by simpa using e⟩
theorem argD_breaks {n : Nat} {d : D} (h : ArgD Tryz.prog n 25 d) : ∃ l : List Br, d = .sl 3 (l.map brrow) .no := by
 simp only [ArgD, Tryz.underlying25] at h
 obtain ⟨l, e⟩ := sh_list Tryz.underlying25 c65 sh_breaks h
 exact ⟨l, by simpa using e⟩
end Go.Proofs.YtinhjbnljbmbcaaGreat

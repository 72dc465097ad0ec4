/- The walk of the law's document. Printed by a tool of our own. -/
import Derived.Test.YtjjkgeeafjagkaaGreatWk
import Derived.Test.YtjjkgeeafjagkaaGreatWi
import Derived.Test.YtjjkgeeafjagkaaGreatWj
namespace Go.Proofs.YtjjkgeeafjagkaaGreat
open Go Go.RowKit
set_option linter.unusedSimpArgs false
set_option linter.unusedVariables false
set_option maxHeartbeats 4000000
set_option maxRecDepth 100000
attribute [local go_sem] List.length_map rowAt_n nrow rowAt_t trow rowAt_i irow
attribute [local go_sem] rowAt_e rowAt_tm rowAt_dc rowAt_ru tmrow dcrow rurow
attribute [local go_sem] rowAt_br rowAt_s rowAt_fo rowAt_ve rowAt_g rowAt_k grow krow srow brrow forow dorow verow
theorem doc_w (c : Int) : PCall Tryz.prog (.func 26) [.int .i64 c] (.ag (dorow (docC c))) := by
  refine PCall.le ?_
  refine fn_ Tryz.func26 (by rfl) (by rfl) (rs := [.cell 2 28]) (by rfl) (by simp [Tryz.f26]) ?_
  refine sq ?_
  refine rg [0, 2] [] [] (by kernel_rfl) ?_; intro κ ξ hκ hξ
  try simp +decide only [go_sem, Nat.reduceMul, Nat.reduceAdd, Nat.reduceBEq, cond_false]
  repeat with_reducible refine And.intro (by first | assumption | omega | (simp; done) | (simp; omega) | (intro hg; simp +decide only [go_sem, hg]; done) | (intro hg; simp +decide only [go_sem, hg]; omega)) ?_
  intro b2 hb2
  try simp +decide only [go_sem, Nat.reduceMul, Nat.reduceAdd, Nat.reduceBEq, cond_false, hb2]
  repeat with_reducible refine And.intro (by first | assumption | omega | (simp; done) | (simp; omega) | (intro hg; simp +decide only [go_sem, hg]; done) | (intro hg; simp +decide only [go_sem, hg]; omega)) ?_
  refine hκ _ _ ?_; clear hκ hξ ξ κ
  refine sq ?_
  refine rgz [(3, [])] [0, 2, 3] [] [] (by kernel_rfl) ?_; intro κ ξ hκ hξ
  try simp +decide only [go_sem, Nat.reduceMul, Nat.reduceAdd, Nat.reduceBEq, cond_false, hb2]
  repeat with_reducible refine And.intro (by first | assumption | omega | (simp; done) | (simp; omega) | (intro hg; simp +decide only [go_sem, hg]; done) | (intro hg; simp +decide only [go_sem, hg]; omega)) ?_
  intro b3 hb3
  try simp +decide only [go_sem, Nat.reduceMul, Nat.reduceAdd, Nat.reduceBEq, cond_false, hb2, hb3]
  repeat with_reducible refine And.intro (by first | assumption | omega | (simp; done) | (simp; omega) | (intro hg; simp +decide only [go_sem, hg]; done) | (intro hg; simp +decide only [go_sem, hg]; omega)) ?_
  refine hκ _ _ ?_; clear hκ hξ ξ κ
  refine sq ?_
  refine rg [2] [] [] (by kernel_rfl) ?_; intro κ ξ hκ hξ
  try simp +decide only [go_sem, Nat.reduceMul, Nat.reduceAdd, Nat.reduceBEq, cond_false, hb2, hb3]
  repeat with_reducible refine And.intro (by first | assumption | omega | (simp; done) | (simp; omega) | (intro hg; simp +decide only [go_sem, hg]; done) | (intro hg; simp +decide only [go_sem, hg]; omega)) ?_
  refine hκ _ _ ?_; clear hκ hξ ξ κ
  refine rt ?_
  refine retL ?_
  simp +decide only [go_sem, resD, resV, hb2, hb3]
  have br : DsLe (brrow ⟨1, 1, []⟩) [.int .i64 1, .int .i64 1, .sl 0 [] .nil] := ⟨DLe.refl _, DLe.refl _, DLe.nil _ _ _, trivial⟩
  exact DLe.ag ⟨DLe.tok _ _ _, DLe.nil _ _ _, DLe.rows ⟨⟨DLe.nil _ _ _, DLe.nil _ _ _, trivial⟩, trivial⟩, DLe.rows ⟨br, br, br, br, trivial⟩, trivial⟩

end Go.Proofs.YtjjkgeeafjagkaaGreat
/- The calls of the law's head. -/
namespace Go.Proofs.YtjjkgeeafjagkaaGreat
open Go Go.RowKit
set_option linter.unusedSimpArgs false
set_option linter.unusedVariables false
section
variable {P : Program} {σ : Store} {imm soft : List Nat} {gt : List (Nat × Nat)}
/-- A guarded operation that makes something, whose guard is known to be so. -/
theorem vd_gt {κ : Env → Store → Prop} {X : D → Store → Prop} {dst : Option Nat} {op : Op} {T : TypeId} {pos : String} {aft : Array Edge} {os : List Oper} {env : Env} {j : Nat} {want : Bool} (hn : nqk op = true) (hg : gq gt env j want = some true) (hs : cgs env op = true)
    (h : nev P (isImm imm dst) σ (opc env) (eK P imm soft gt κ X os env dst σ) X op) : vdr P imm soft gt κ X (⟨dst, op, T, pos, aft, some (j, want)⟩ :: os) env σ := by
  obtain ⟨hq, hc, hst, hap⟩ := nqk_spec hn
  have hs2 : softC soft ⟨dst, op, T, pos, aft, some (j, want)⟩ = false := by
    unfold softC
    split
    · rename_i h1 h2; simp only at h1; rw [h1] at hc; simp [isCall] at hc
    · rfl
  simp only [vdr, hs2, cond_false]
  unfold vop
  simp only [hq, cond_false, nv, isW, hst, hap, Bool.false_and, Bool.or_self, Bool.false_eq_true, false_or]
  unfold gq at hg
  simp only [hg]
  exact .inr ⟨fun _ => ⟨hs, h⟩, fun e => by cases e⟩
end

theorem PCall.args {P : Program} {f : Fn} {ds ds' : List D} {d : D} (h : PCall P f ds d) (hl : DsLe ds ds') : PCall P f ds' d := fun M w vs hc hr => h M w vs hc (DsLe.R hl hr)
def exA : List Ve := [⟨1, 0, docC 1⟩]
def exB' : List Ve := [⟨1, 1, docC 1⟩]
def exC : List Ve := [⟨1, 1, docC 1⟩, ⟨2, 0, docC 2⟩]
def exE : List Ve := [⟨2, 0, docC 2⟩]
def exO : List Ve := []
theorem xp1 : PCall Tryz.prog (.func 11) [.sl 0 [] .nil, .ag (dorow (docC 1))] (.tup [.sl 6 (exA.map verow) .no, .int .i64 0]) := by
  have h := push_w [] .no (docC 1)
  rw [ex_push1] at h
  exact PCall.args h ⟨DLe.nil _ _ _, DLe.refl _, trivial⟩
theorem xh1 : PCall Tryz.prog (.func 16) [.sl 6 (exA.map verow) .no] (.tup [.sl 6 (exB'.map verow) .no, .int .i64 1, .int .i64 0]) := by
  have h := hold_w exA .no
  rw [show holdR exA = _ from ex_hold] at h
  exact h
theorem xp2 : PCall Tryz.prog (.func 11) [.sl 6 (exB'.map verow) .no, .ag (dorow (docC 2))] (.tup [.sl 6 (exC.map verow) .no, .int .i64 0]) := by
  have h := push_w exB' .no (docC 2)
  rw [show pushR exB' (docC 2) = _ from ex_push2] at h
  exact h
theorem xl1 : PCall Tryz.prog (.func 18) [.sl 6 (exC.map verow) .no, .int .i64 1] (.tup [.sl 6 (exE.map verow) .no, .int .i64 0]) := by
  have h := let_w exC .no 1
  rw [show letR exC 1 = _ from ex_let1] at h
  exact h
theorem xl2 : PCall Tryz.prog (.func 18) [.sl 6 (exE.map verow) .no, .int .i64 2] (.tup [.sl 6 (exO.map verow) .no, .int .i64 6]) := by
  have h := let_w exE .no 2
  rw [show letR exE 2 = _ from ex_let2] at h
  exact h
theorem xl3 : PCall Tryz.prog (.func 18) [.sl 6 (exE.map verow) .no, .int .i64 1] (.tup [.sl 6 (exO.map verow) .no, .int .i64 4]) := by
  have h := let_w exE .no 1
  rw [show letR exE 1 = _ from ex_let3] at h
  exact h
theorem xd1 : PCall Tryz.prog (.func 20) [.sl 6 (exC.map verow) .no, .int .i64 1] (.tup [.ag (dorow (docC 1)), .int .i64 0]) := by
  have h := vdoc_w exC .no 1
  rw [show docR exC 1 = _ from ex_doc] at h
  exact h
theorem xh0 : PCall Tryz.prog (.func 16) [.sl 0 [] .nil] (.tup [.sl 6 (exO.map verow) .no, .int .i64 0, .int .i64 4]) := by
  have h := hold_w [] .no
  rw [ex_hold0] at h
  exact PCall.args h ⟨DLe.nil _ _ _, trivial⟩
theorem xs1 : PCall Tryz.prog (.func 15) [.sl 6 (exC.map verow) .no, .sl 6 [verow ⟨1, 1, docC 1⟩, verow ⟨2, 0, docC 2⟩] .full] (.bool true) := samev_w exC .no .full
theorem xs2 : PCall Tryz.prog (.func 15) [.sl 6 (exE.map verow) .no, .sl 6 [verow ⟨2, 0, docC 2⟩] .full] (.bool true) := samev_w exE .no .full
theorem xs3 : PCall Tryz.prog (.func 22) [.ag (dorow (docC 1)), .ag (dorow (docC 1))] (.bool true) := samed_w _
theorem xv1 : PCall Tryz.prog (.func 13) [.sl 6 (exC.map verow) .no] (.bool true) := by
  have h := ver_w exC .no
  rw [show verB exC = _ from ver_two] at h
  exact h
theorem xv2 : PCall Tryz.prog (.func 13) [.sl 6 [[.int .i64 0, .int .i64 0, .sl 0 [] .nil, .sl 0 [] .nil, .sl 0 [] .nil, .sl 0 [] .nil]] .full] (.bool false) := by
  have h := ver_w [ve0] .no
  rw [ex_bad] at h
  exact PCall.args h ⟨DLe.rows ⟨⟨DLe.refl _, DLe.refl _, DLe.nil _ _ _, DLe.nil _ _ _, DLe.nil _ _ _, DLe.nil _ _ _, trivial⟩, trivial⟩, trivial⟩
end Go.Proofs.YtjjkgeeafjagkaaGreat
/- The walk of the versions laws' head. Printed by a tool of our own. -/
namespace Go.Proofs.YtjjkgeeafjagkaaGreat
open Go Go.RowKit
set_option linter.unusedSimpArgs false
set_option linter.unusedVariables false
set_option maxHeartbeats 4000000
set_option maxRecDepth 100000
attribute [local go_sem] List.length_map rowAt_n nrow rowAt_t trow rowAt_i irow
attribute [local go_sem] rowAt_e rowAt_tm rowAt_dc rowAt_ru tmrow dcrow rurow
attribute [local go_sem] rowAt_br rowAt_s rowAt_fo rowAt_ve rowAt_g rowAt_k grow krow srow brrow forow dorow verow
theorem head_w  : PCall Tryz.prog (.func 8) [] (.bool true) := by
  refine PCall.le ?_
  refine fn_ Tryz.func8 (by rfl) (by rfl) (rs := [.tmp 0]) (by rfl) (by simp [Tryz.f8]) ?_
  refine sq ?_
  refine rg [] [] [] (by kernel_rfl) ?_; intro κ ξ hκ hξ
  try simp +decide only [go_sem, Nat.reduceMul, Nat.reduceAdd, Nat.reduceBEq, cond_false]
  repeat with_reducible refine And.intro (by first | assumption | omega | (simp; done) | (simp; omega) | (intro hg; simp +decide only [go_sem, hg]; done) | (intro hg; simp +decide only [go_sem, hg]; omega)) ?_
  refine hκ _ _ ?_; clear hκ hξ ξ κ
  refine sq ?_
  refine rg [1, 2] [] [] (by kernel_rfl) ?_; intro κ ξ hκ hξ
  try simp +decide only [go_sem, Nat.reduceMul, Nat.reduceAdd, Nat.reduceBEq, cond_false]
  repeat with_reducible refine And.intro (by first | assumption | omega | (simp; done) | (simp; omega) | (intro hg; simp +decide only [go_sem, hg]; done) | (intro hg; simp +decide only [go_sem, hg]; omega)) ?_
  refine callF (doc_w 1) ?_
  try simp +decide only [go_sem, Nat.reduceMul, Nat.reduceAdd, Nat.reduceBEq, cond_false]
  repeat with_reducible refine And.intro (by first | assumption | omega | (simp; done) | (simp; omega) | (intro hg; simp +decide only [go_sem, hg]; done) | (intro hg; simp +decide only [go_sem, hg]; omega)) ?_
  refine callF (xp1) ?_
  try simp +decide only [go_sem, Nat.reduceMul, Nat.reduceAdd, Nat.reduceBEq, cond_false]
  repeat with_reducible refine And.intro (by first | assumption | omega | (simp; done) | (simp; omega) | (intro hg; simp +decide only [go_sem, hg]; done) | (intro hg; simp +decide only [go_sem, hg]; omega)) ?_
  refine hκ _ _ ?_; clear hκ hξ ξ κ
  refine sq ?_
  refine rg [2, 3, 4, 5] [] [] (by kernel_rfl) ?_; intro κ ξ hκ hξ
  try simp +decide only [go_sem, Nat.reduceMul, Nat.reduceAdd, Nat.reduceBEq, cond_false]
  repeat with_reducible refine And.intro (by first | assumption | omega | (simp; done) | (simp; omega) | (intro hg; simp +decide only [go_sem, hg]; done) | (intro hg; simp +decide only [go_sem, hg]; omega)) ?_
  refine callF (xh1) ?_
  try simp +decide only [go_sem, Nat.reduceMul, Nat.reduceAdd, Nat.reduceBEq, cond_false]
  repeat with_reducible refine And.intro (by first | assumption | omega | (simp; done) | (simp; omega) | (intro hg; simp +decide only [go_sem, hg]; done) | (intro hg; simp +decide only [go_sem, hg]; omega)) ?_
  refine hκ _ _ ?_; clear hκ hξ ξ κ
  refine sq ?_
  refine rg [2, 4, 5, 6, 7] [] [] (by kernel_rfl) ?_; intro κ ξ hκ hξ
  try simp +decide only [go_sem, Nat.reduceMul, Nat.reduceAdd, Nat.reduceBEq, cond_false]
  repeat with_reducible refine And.intro (by first | assumption | omega | (simp; done) | (simp; omega) | (intro hg; simp +decide only [go_sem, hg]; done) | (intro hg; simp +decide only [go_sem, hg]; omega)) ?_
  refine callF (doc_w 2) ?_
  try simp +decide only [go_sem, Nat.reduceMul, Nat.reduceAdd, Nat.reduceBEq, cond_false]
  repeat with_reducible refine And.intro (by first | assumption | omega | (simp; done) | (simp; omega) | (intro hg; simp +decide only [go_sem, hg]; done) | (intro hg; simp +decide only [go_sem, hg]; omega)) ?_
  refine callF (xp2) ?_
  try simp +decide only [go_sem, Nat.reduceMul, Nat.reduceAdd, Nat.reduceBEq, cond_false]
  repeat with_reducible refine And.intro (by first | assumption | omega | (simp; done) | (simp; omega) | (intro hg; simp +decide only [go_sem, hg]; done) | (intro hg; simp +decide only [go_sem, hg]; omega)) ?_
  refine hκ _ _ ?_; clear hκ hξ ξ κ
  refine sq ?_
  refine rg [2, 4, 5, 6, 7, 8, 9] [] [] (by kernel_rfl) ?_; intro κ ξ hκ hξ
  try simp +decide only [go_sem, Nat.reduceMul, Nat.reduceAdd, Nat.reduceBEq, cond_false]
  repeat with_reducible refine And.intro (by first | assumption | omega | (simp; done) | (simp; omega) | (intro hg; simp +decide only [go_sem, hg]; done) | (intro hg; simp +decide only [go_sem, hg]; omega)) ?_
  refine callF (xl1) ?_
  try simp +decide only [go_sem, Nat.reduceMul, Nat.reduceAdd, Nat.reduceBEq, cond_false]
  repeat with_reducible refine And.intro (by first | assumption | omega | (simp; done) | (simp; omega) | (intro hg; simp +decide only [go_sem, hg]; done) | (intro hg; simp +decide only [go_sem, hg]; omega)) ?_
  refine hκ _ _ ?_; clear hκ hξ ξ κ
  refine sq ?_
  refine rg [2, 4, 5, 6, 7, 8, 9, 11] [] [] (by kernel_rfl) ?_; intro κ ξ hκ hξ
  try simp +decide only [go_sem, Nat.reduceMul, Nat.reduceAdd, Nat.reduceBEq, cond_false]
  repeat with_reducible refine And.intro (by first | assumption | omega | (simp; done) | (simp; omega) | (intro hg; simp +decide only [go_sem, hg]; done) | (intro hg; simp +decide only [go_sem, hg]; omega)) ?_
  refine callF (xl2) ?_
  try simp +decide only [go_sem, Nat.reduceMul, Nat.reduceAdd, Nat.reduceBEq, cond_false]
  repeat with_reducible refine And.intro (by first | assumption | omega | (simp; done) | (simp; omega) | (intro hg; simp +decide only [go_sem, hg]; done) | (intro hg; simp +decide only [go_sem, hg]; omega)) ?_
  refine hκ _ _ ?_; clear hκ hξ ξ κ
  refine sq ?_
  refine rg [2, 4, 5, 6, 7, 8, 9, 11, 13] [] [] (by kernel_rfl) ?_; intro κ ξ hκ hξ
  try simp +decide only [go_sem, Nat.reduceMul, Nat.reduceAdd, Nat.reduceBEq, cond_false]
  repeat with_reducible refine And.intro (by first | assumption | omega | (simp; done) | (simp; omega) | (intro hg; simp +decide only [go_sem, hg]; done) | (intro hg; simp +decide only [go_sem, hg]; omega)) ?_
  refine callF (xl3) ?_
  try simp +decide only [go_sem, Nat.reduceMul, Nat.reduceAdd, Nat.reduceBEq, cond_false]
  repeat with_reducible refine And.intro (by first | assumption | omega | (simp; done) | (simp; omega) | (intro hg; simp +decide only [go_sem, hg]; done) | (intro hg; simp +decide only [go_sem, hg]; omega)) ?_
  refine hκ _ _ ?_; clear hκ hξ ξ κ
  refine sq ?_
  refine rgz [(14, [])] [2, 4, 5, 6, 7, 8, 9, 11, 13, 14, 15] [] [] (by kernel_rfl) ?_; intro κ ξ hκ hξ
  try simp +decide only [go_sem, Nat.reduceMul, Nat.reduceAdd, Nat.reduceBEq, cond_false]
  repeat with_reducible refine And.intro (by first | assumption | omega | (simp; done) | (simp; omega) | (intro hg; simp +decide only [go_sem, hg]; done) | (intro hg; simp +decide only [go_sem, hg]; omega)) ?_
  refine callF (xd1) ?_
  try simp +decide only [go_sem, Nat.reduceMul, Nat.reduceAdd, Nat.reduceBEq, cond_false]
  repeat with_reducible refine And.intro (by first | assumption | omega | (simp; done) | (simp; omega) | (intro hg; simp +decide only [go_sem, hg]; done) | (intro hg; simp +decide only [go_sem, hg]; omega)) ?_
  intro b14 hb14
  try simp +decide only [go_sem, Nat.reduceMul, Nat.reduceAdd, Nat.reduceBEq, cond_false, hb14]
  repeat with_reducible refine And.intro (by first | assumption | omega | (simp; done) | (simp; omega) | (intro hg; simp +decide only [go_sem, hg]; done) | (intro hg; simp +decide only [go_sem, hg]; omega)) ?_
  refine hκ _ _ ?_; clear hκ hξ ξ κ
  refine sq ?_
  refine rg [2, 4, 5, 6, 7, 8, 9, 11, 13, 14, 15, 18] [] [] (by kernel_rfl) ?_; intro κ ξ hκ hξ
  try simp +decide only [go_sem, Nat.reduceMul, Nat.reduceAdd, Nat.reduceBEq, cond_false, hb14]
  repeat with_reducible refine And.intro (by first | assumption | omega | (simp; done) | (simp; omega) | (intro hg; simp +decide only [go_sem, hg]; done) | (intro hg; simp +decide only [go_sem, hg]; omega)) ?_
  refine callF (xh0) ?_
  try simp +decide only [go_sem, Nat.reduceMul, Nat.reduceAdd, Nat.reduceBEq, cond_false, hb14]
  repeat with_reducible refine And.intro (by first | assumption | omega | (simp; done) | (simp; omega) | (intro hg; simp +decide only [go_sem, hg]; done) | (intro hg; simp +decide only [go_sem, hg]; omega)) ?_
  refine hκ _ _ ?_; clear hκ hξ ξ κ
  refine sq ?_
  refine rg [6, 8, 14, 19] [] [(2, 64), (6, 68), (10, 72), (14, 76), (18, 80), (22, 84), (26, 88), (30, 92)] (by kernel_rfl) ?_; intro κ ξ hκ hξ
  try simp +decide only [go_sem, Nat.reduceMul, Nat.reduceAdd, Nat.reduceBEq, cond_false, hb14]
  repeat with_reducible refine And.intro (by first | assumption | omega | (simp; done) | (simp; omega) | (intro hg; simp +decide only [go_sem, hg]; done) | (intro hg; simp +decide only [go_sem, hg]; omega)) ?_
  refine hκ _ _ ?_; clear hκ hξ ξ κ
  refine sq ?_
  refine rg [6, 14, 19] [] [(1, 97), (10, 106)] (by kernel_rfl) ?_; intro κ ξ hκ hξ
  try simp +decide only [go_sem, Nat.reduceMul, Nat.reduceAdd, Nat.reduceBEq, cond_false, hb14]
  repeat with_reducible refine And.intro (by first | assumption | omega | (simp; done) | (simp; omega) | (intro hg; simp +decide only [go_sem, hg]; done) | (intro hg; simp +decide only [go_sem, hg]; omega)) ?_
  refine vo_gc ?_; simp +decide only [go_sem]; refine gcallF (fun hg => ⟨by first | rfl | (simp +decide only [go_sem]; done), doc_w 1⟩) ?_
  try simp +decide only [go_sem, Nat.reduceMul, Nat.reduceAdd, Nat.reduceBEq, cond_false, hb14]
  repeat with_reducible refine And.intro (by first | assumption | omega | (simp; done) | (simp; omega) | (intro hg; simp +decide only [go_sem, hg]; done) | (intro hg; simp +decide only [go_sem, hg]; omega)) ?_
  refine vo_gc ?_; simp +decide only [go_sem]; refine gcallF (fun hg => ⟨by first | rfl | (simp +decide only [go_sem]; done), doc_w 2⟩) ?_
  try simp +decide only [go_sem, Nat.reduceMul, Nat.reduceAdd, Nat.reduceBEq, cond_false, hb14]
  repeat with_reducible refine And.intro (by first | assumption | omega | (simp; done) | (simp; omega) | (intro hg; simp +decide only [go_sem, hg]; done) | (intro hg; simp +decide only [go_sem, hg]; omega)) ?_
  refine vo_gt (by rfl) (by first | rfl | (simp +decide only [go_sem]; done)) (by first | rfl | (simp +decide only [go_sem]; done)) ?_
  try simp +decide only [go_sem, Nat.reduceMul, Nat.reduceAdd, Nat.reduceBEq, cond_false]
  repeat with_reducible refine And.intro (by first | assumption | omega | (simp; done) | (simp; omega) | (intro hg; simp +decide only [go_sem, hg]; done) | (intro hg; simp +decide only [go_sem, hg]; omega)) ?_
  refine vo_gc ?_; simp +decide only [go_sem]; refine gcallF (fun hg => ⟨by first | rfl | (simp +decide only [go_sem]; done), xs1⟩) ?_
  try simp +decide only [go_sem, Nat.reduceMul, Nat.reduceAdd, Nat.reduceBEq, cond_false, hb14]
  repeat with_reducible refine And.intro (by first | assumption | omega | (simp; done) | (simp; omega) | (intro hg; simp +decide only [go_sem, hg]; done) | (intro hg; simp +decide only [go_sem, hg]; omega)) ?_
  refine vo_gc ?_; simp +decide only [go_sem]; refine gcallF (fun hg => ⟨by first | rfl | (simp +decide only [go_sem]; done), doc_w 2⟩) ?_
  try simp +decide only [go_sem, Nat.reduceMul, Nat.reduceAdd, Nat.reduceBEq, cond_false, hb14]
  repeat with_reducible refine And.intro (by first | assumption | omega | (simp; done) | (simp; omega) | (intro hg; simp +decide only [go_sem, hg]; done) | (intro hg; simp +decide only [go_sem, hg]; omega)) ?_
  refine vo_gt (by rfl) (by first | rfl | (simp +decide only [go_sem]; done)) (by first | rfl | (simp +decide only [go_sem]; done)) ?_
  try simp +decide only [go_sem, Nat.reduceMul, Nat.reduceAdd, Nat.reduceBEq, cond_false]
  repeat with_reducible refine And.intro (by first | assumption | omega | (simp; done) | (simp; omega) | (intro hg; simp +decide only [go_sem, hg]; done) | (intro hg; simp +decide only [go_sem, hg]; omega)) ?_
  refine vo_gc ?_; simp +decide only [go_sem]; refine gcallF (fun hg => ⟨by first | rfl | (simp +decide only [go_sem]; done), xs2⟩) ?_
  try simp +decide only [go_sem, Nat.reduceMul, Nat.reduceAdd, Nat.reduceBEq, cond_false, hb14]
  repeat with_reducible refine And.intro (by first | assumption | omega | (simp; done) | (simp; omega) | (intro hg; simp +decide only [go_sem, hg]; done) | (intro hg; simp +decide only [go_sem, hg]; omega)) ?_
  refine hκ _ _ ?_; clear hκ hξ ξ κ
  refine sq ?_
  refine rgd [0] [] [116, 117, 121, 126] [(1, 114), (6, 119), (10, 123)] (by kernel_rfl) (by kernel_rfl) ?_; intro κ ξ hκ hξ
  try simp +decide only [go_sem, Nat.reduceMul, Nat.reduceAdd, Nat.reduceBEq, cond_false, hb14]
  repeat with_reducible refine And.intro (by first | assumption | omega | (simp; done) | (simp; omega) | (intro hg; simp +decide only [go_sem, hg]; done) | (intro hg; simp +decide only [go_sem, hg]; omega)) ?_
  refine vd_gc (by rfl) ?_; simp +decide only [go_sem]; refine gcallF (fun hg => ⟨by first | rfl | (simp +decide only [go_sem]; done), doc_w 1⟩) ?_
  try simp +decide only [go_sem, Nat.reduceMul, Nat.reduceAdd, Nat.reduceBEq, cond_false, hb14]
  repeat with_reducible refine And.intro (by first | assumption | omega | (simp; done) | (simp; omega) | (intro hg; simp +decide only [go_sem, hg]; done) | (intro hg; simp +decide only [go_sem, hg]; omega)) ?_
  refine vd_gc (by rfl) ?_; simp +decide only [go_sem]; refine gcallF (fun hg => ⟨by first | rfl | (simp +decide only [go_sem]; done), xs3⟩) ?_
  try simp +decide only [go_sem, Nat.reduceMul, Nat.reduceAdd, Nat.reduceBEq, cond_false, hb14]
  repeat with_reducible refine And.intro (by first | assumption | omega | (simp; done) | (simp; omega) | (intro hg; simp +decide only [go_sem, hg]; done) | (intro hg; simp +decide only [go_sem, hg]; omega)) ?_
  refine vd_gc (by rfl) ?_; simp +decide only [go_sem]; refine gcallF (fun hg => ⟨by first | rfl | (simp +decide only [go_sem]; done), xv1⟩) ?_
  try simp +decide only [go_sem, Nat.reduceMul, Nat.reduceAdd, Nat.reduceBEq, cond_false, hb14]
  repeat with_reducible refine And.intro (by first | assumption | omega | (simp; done) | (simp; omega) | (intro hg; simp +decide only [go_sem, hg]; done) | (intro hg; simp +decide only [go_sem, hg]; omega)) ?_
  refine vd_gt (by rfl) (by first | rfl | (simp +decide only [go_sem]; done)) (by first | rfl | (simp +decide only [go_sem]; done)) ?_
  try simp +decide only [go_sem, Nat.reduceMul, Nat.reduceAdd, Nat.reduceBEq, cond_false]
  repeat with_reducible refine And.intro (by first | assumption | omega | (simp; done) | (simp; omega) | (intro hg; simp +decide only [go_sem, hg]; done) | (intro hg; simp +decide only [go_sem, hg]; omega)) ?_
  refine vd_gc (by rfl) ?_; simp +decide only [go_sem]; refine gcallF (fun hg => ⟨by first | rfl | (simp +decide only [go_sem]; done), xv2⟩) ?_
  try simp +decide only [go_sem, Nat.reduceMul, Nat.reduceAdd, Nat.reduceBEq, cond_false, hb14]
  repeat with_reducible refine And.intro (by first | assumption | omega | (simp; done) | (simp; omega) | (intro hg; simp +decide only [go_sem, hg]; done) | (intro hg; simp +decide only [go_sem, hg]; omega)) ?_
  refine hκ _ _ ?_; clear hκ hξ ξ κ
  refine rt ?_
  refine retE ?_
  simp +decide only [go_sem, resD, resV, hb14]
  

end Go.Proofs.YtjjkgeeafjagkaaGreat

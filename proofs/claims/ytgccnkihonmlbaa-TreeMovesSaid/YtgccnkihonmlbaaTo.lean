/- Plain facts of the example of the tree's laws, and contracts told anew. -/
import Derived.Test.YtgccnkihonmlbaaTn
import Derived.Test.YtgccnkihonmlbaaTg
namespace Go.Proofs.Ytgccnkihonmlbaa
open Go Go.RowKit
set_option linter.unusedSimpArgs false
set_option linter.unusedVariables false

section
variable {P : Program} {σ : Store} {imm soft : List Nat} {gt : List (Nat × Nat)}
/-- A guarded operation that makes something, whose guard is known to be so. -/
theorem vd_gt {κ : Env → Store → Prop} {X : D → Store → Prop} {dst : Option Nat} {op : Op} {T : TypeId} {pos : String} {aft : Array Edge} {os : List Oper} {env : Env} {j : Nat} {want : Bool} (hn : nqk op = true) (hg : gq gt env j want = some true) (hs : cgs env op = true)
    (h : nev P (isImm imm dst) σ (opc env) (eK P imm soft gt κ X os env dst σ) X op) : vdr P imm soft gt κ X (⟨dst, op, T, pos, aft, some (j, want)⟩ :: os) env σ := by
  obtain ⟨hq, hc, hst⟩ := nqk_spec hn
  have hs2 : softC soft ⟨dst, op, T, pos, aft, some (j, want)⟩ = false := by
    unfold softC
    split
    · rename_i h1 h2; simp only at h1; rw [h1] at hc; simp [isCall] at hc
    · rfl
  simp only [vdr, hs2, cond_false]
  unfold vop
  simp only [hq, cond_false, nv, hst, Bool.false_eq_true, false_or]
  unfold gq at hg
  simp only [hg]
  exact .inr ⟨fun _ => ⟨hs, h⟩, fun e => by cases e⟩
end

/-! ### What can be computed -/
def chnF (l : List Nd) : Nat → Nat → List Nat
  | 0, _ => []
  | k + 1, i => if 0 ≤ pix l i then (pix l i).toNat :: chnF l k (pix l i).toNat else []
theorem chnF_eq (l : List Nd) : ∀ (k i : Nat), i < k → chnF l k i = chn l i
  | 0, _, h => by omega
  | k + 1, i, h => by
    have := pix_lt l i
    rw [chnF, chn_eq]
    split
    · rw [chnF_eq l k _ (by omega)]
    · rfl
def dptF (l : List Nd) (i : Nat) : Int := ((chnF l (i + 1) i).length : Int) + 1
theorem dpt_F (l : List Nd) (i : Nat) : dpt l i = dptF l i := by
  unfold dptF
  rw [chnF_eq l _ _ (Nat.lt_succ_self i), chn_len]
def treF (l : List Nd) : Bool := decide (1 ≤ l.length ∧ l.length ≤ 4000) && decide ((nat l 0).par = 0) && decide ((nat l 0).kind = 1) && (List.range l.length).all fun i =>
  fmB (nat l i) && decide (idx (l.take i) (nat l i).id = -1) && (decide (i = 0) || (decide (0 ≤ pix l i) && stR (nat l i).kind (nat l (pix l i).toNat).kind)) && decide (dptF l i ≤ 30)
theorem treB_F (l : List Nd) : treB l = treF l := by
  unfold treB treF
  congr 1
  refine congrArg (fun f => List.all (List.range l.length) f) ?_
  funext i
  unfold okAt
  rw [dpt_F]
def pathF (l : List Nd) (i : Nat) : List Int := ((i :: chnF l (i + 1) i).map fun x => (nat l x).id).reverse
theorem path_F (l : List Nd) (i : Nat) : pathL l i = pathF l i := by
  unfold pathL upL pathF
  rw [chnF_eq l _ _ (Nat.lt_succ_self i)]
def goLF (l : List Nd) (x : Int) (n : Nat) : List Nd := ((List.range n).filter fun i => iin (pathF l i) x).map (nat l)
def stLF (l : List Nd) (x : Int) (n : Nat) : List Nd := ((List.range n).filter fun i => !iin (pathF l i) x).map (nat l)
theorem goL_F (l : List Nd) (x : Int) (n : Nat) : goL l x n = goLF l x n := by
  unfold goL goLF goB
  simp only [path_F]
theorem stL_F (l : List Nd) (x : Int) (n : Nat) : stL l x n = stLF l x n := by
  unfold stL stLF goB
  simp only [path_F]
/-! ### The example -/
def n1 : Nd := ⟨1, 0, 1, 0, []⟩
def n2 : Nd := ⟨2, 1, 1, 0, []⟩
def n3 : Nd := ⟨3, 2, 2, 0, [97]⟩
def n4 : Nd := ⟨4, 1, 2, 0, []⟩
def n5 : Nd := ⟨5, 1, 10, 0, []⟩
def exM : List Nd := [n1, n2, n3, n4]
def exI : List Nd := [n1, n2, n3, n5, n4]
def exV2 : List Nd := [n1, n4, n2, n3]
def exR : List Nd := [n1, n4]
theorem ex_tre : treB exM = true := by rw [treB_F]; decide
theorem ex_tre1 : treB (exM.drop 1) = false := by rw [treB_F]; decide
/-- Kids and paths, and nothing where something is wrong. -/
def kdL (l : List Nd) (x : Int) : List Int := if gerr l x = 0 then kidsL l x else []
def ptL (l : List Nd) (x : Int) : List Int := if gerr l x = 0 then pathL l (idx l x).toNat else []
theorem if_le {E : Int} {X : List Int} : DLe (.tup [.sl 1 ((if E = 0 then X else []).map irow) .no, .int .i64 E]) (.tup [if E = 0 then .sl 1 (X.map irow) .no else .sl 0 [] .nil, .int .i64 E]) := by
  by_cases h : E = 0
  · rw [if_pos h, if_pos h]; exact DLe.refl _
  · rw [if_neg h, if_neg h]; exact DLe.tup ⟨DLe.nil _ _ _, DLe.refl _, trivial⟩
theorem kids2_w (l : List Nd) (t : Tok) (x : Int) (hs : l.length ≤ 1000000) : PCall Try.prog (.func 38) [.sl 5 (l.map nrow) t, .int .i64 x] (.tup [.sl 1 ((kdL l x).map irow) .no, .int .i64 (gerr l x)]) := PCall.weaken (kidsT_w l t x hs) if_le
theorem rkids2_w (l : List Nd) (t : Tok) (x : Int) (hs : l.length ≤ 1000000) : PCall Try.prog (.func 39) [.sl 5 (l.map nrow) t, .int .i64 x] (.tup [.sl 1 ((kdL l x).map irow) .no, .int .i64 (gerr l x)]) := PCall.weaken (rkidsT_w l t x hs) if_le
theorem path2_w (l : List Nd) (t : Tok) (x : Int) : PCall Try.prog (.func 29) [.sl 5 (l.map nrow) t, .int .i64 x] (.tup [.sl 1 ((ptL l x).map irow) .no, .int .i64 (gerr l x)]) := PCall.weaken (tpath_w l t x) if_le
theorem exg {x : Int} (h : idB x = true) (h2 : 0 ≤ idx exM x) : gerr exM x = 0 := gerr_zero.2 ⟨ex_tre, h, h2⟩
theorem xk : PCall Try.prog (.func 38) [.sl 5 (exM.map nrow) .full, .int .i64 1] (.tup [.sl 1 ([(2 : Int), 4].map irow) .no, .int .i64 0]) := by
  have h := kids2_w exM .full 1 (by decide)
  have e := exg (x := 1) (by decide) (by decide)
  rw [kdL, if_pos e, e] at h
  exact h
theorem xp : PCall Try.prog (.func 29) [.sl 5 (exM.map nrow) .full, .int .i64 3] (.tup [.sl 1 ([(1 : Int), 2, 3].map irow) .no, .int .i64 0]) := by
  have h := path2_w exM .full 3
  have e := exg (x := 3) (by decide) (by decide)
  rw [ptL, if_pos e, e, path_F] at h
  exact h
theorem xi : PCall Try.prog (.func 42) [.sl 5 (exM.map nrow) .full, .ag (nrow n5), .int .i64 4] (.tup [.sl 5 (exI.map nrow) .no, .int .i64 0]) := by
  have h := tins_w exM .full n5 4
  have e : insE exM n5 4 = 0 := by unfold insE; simp only [treB_F, fd, dpt_F]; decide
  rw [insL, if_pos e, e] at h
  exact h
theorem xm1 : PCall Try.prog (.func 47) [.sl 5 (exM.map nrow) .full, .int .i64 2, .int .i64 1, .int .i64 0] (.tup [.sl 5 (exV2.map nrow) .no, .int .i64 0]) := by
  have h := tmv_w exM .full 2 1 0
  have e : mvE exM 2 1 0 = 0 := by unfold mvE mvR goB; simp only [treB_F, stL_F, goL_F, path_F]; decide
  rw [mvL, if_pos e, e, mvR, stL_F, goL_F] at h
  exact h
theorem xm2 : PCall Try.prog (.func 47) [.sl 5 (exM.map nrow) .full, .int .i64 2, .int .i64 3, .int .i64 0] (.tup [.sl 5 (([] : List Nd).map nrow) .no, .int .i64 24]) := by
  have h := tmv_w exM .full 2 3 0
  have e : mvE exM 2 3 0 = 24 := by unfold mvE mvR goB; simp only [treB_F, stL_F, goL_F, path_F]; decide
  rw [mvL, if_neg (by rw [e]; decide), e] at h
  exact h
theorem xm3 : PCall Try.prog (.func 47) [.sl 5 (exM.map nrow) .full, .int .i64 4, .int .i64 3, .int .i64 0] (.tup [.sl 5 (([] : List Nd).map nrow) .no, .int .i64 25]) := by
  have h := tmv_w exM .full 4 3 0
  have e : mvE exM 4 3 0 = 25 := by unfold mvE mvR goB; simp only [treB_F, stL_F, goL_F, path_F]; decide
  rw [mvL, if_neg (by rw [e]; decide), e] at h
  exact h
theorem xr : PCall Try.prog (.func 45) [.sl 5 (exM.map nrow) .full, .int .i64 2] (.tup [.sl 5 (exR.map nrow) .no, .int .i64 0]) := by
  have h := trm_w exM .full 2
  have e0 := exg (x := 2) (by decide) (by decide)
  have e : rmE exM 2 = 0 := by unfold rmE; rw [if_pos e0]; decide
  rw [rmL, if_pos e, e, stL_F] at h
  exact h
theorem xf : PCall Try.prog (.func 34) [.sl 5 (exM.map nrow) .full, .int .i64 4] (.tup [.int .i64 3, .bool true, .int .i64 0]) := by
  have h := find_w exM .full 4
  rw [ex_tre] at h
  exact h
theorem xv : PCall Try.prog (.func 36) [.sl 5 (exM.map nrow) .full] (.bool true) := by
  have h := tre_w exM .full
  rw [ex_tre] at h
  exact h
theorem xv1 (t : Tok) : PCall Try.prog (.func 36) [.sl 5 ((exM.drop 1).map nrow) t] (.bool false) := by
  have h := tre_w (exM.drop 1) t
  rw [ex_tre1] at h
  exact h
theorem xs1 (l : List Nd) (t u : Tok) : PCall Try.prog (.func 44) [.sl 5 (l.map nrow) t, .sl 5 (l.map nrow) u] (.bool true) := by
  have h := sameN_w l l t u
  rw [decide_eq_true rfl] at h
  exact h
theorem xs2 (l : List Int) (t u : Tok) : PCall Try.prog (.func 40) [.sl 1 (l.map irow) t, .sl 1 (l.map irow) u] (.bool true) := by
  have h := sameI_w l l t u
  rw [decide_eq_true rfl] at h
  exact h
end Go.Proofs.Ytgccnkihonmlbaa

/- Own layer, part 13: regions of operations, in the text's order and in whatever order. -/
import Derived.Test.YtgccnkihonmlbaaAc
import Derived.Deep.Quiet
namespace Go.Proofs.Ytgccnkihonmlbaa
open Go Go.RowKit
set_option linter.unusedSimpArgs false
set_option linter.unusedVariables false

def quiet : Op → Bool
  | .move _ | .assign _ | .pick .. | .binOp .. | .unOp .. | .convert .. | .field .. | .fieldAddr .. | .indexAddr .. | .index .. | .load .. | .lookup .. | .extract .. | .build .. | .makeInterface .. | .makeFunc .. | .slice .. | .nilCheck _ => true
  | .call { callee := .builtin .len, .. } | .call { callee := .builtin .cap, .. } | .call { callee := .builtin .min, .. } | .call { callee := .builtin .max, .. } => true
  | _ => false

def gtmp (ops : Array Oper) (j : Nat) : Option Nat := (ops[j]?).bind (·.dst)
/-- Where the results of the operations that guards name are put. -/
def look : List (Nat × Nat) → Nat → Option Nat
  | [], _ => none
  | (i, t) :: l, j => if j = i then some t else look l j
def gtOK (ops : Array Oper) (gt : List (Nat × Nat)) : Bool := gt.all fun x => gtmp ops x.1 == some x.2
def GT (ops : Array Oper) (gt : List (Nat × Nat)) : Prop := ∀ j t, look gt j = some t → gtmp ops j = some t
theorem GT.of {ops : Array Oper} : ∀ {gt : List (Nat × Nat)}, gtOK ops gt = true → GT ops gt
  | [], _, _, _, h => by simp [look] at h
  | (i, t) :: gt, hok, j, u, h => by
    simp only [gtOK, List.all_cons, Bool.and_eq_true, beq_iff_eq] at hok
    unfold look at h
    split at h
    · rename_i e; cases h; rw [e]; exact hok.1
    · exact GT.of hok.2 j u h

def gval (d : D) (want : Bool) : Option Bool :=
  match d with
  | .bool b => some (b == want)
  | .cnd g d => bif g then (match d with | .bool b => some (b == want) | _ => none) else some false
  | _ => none
theorem cond_some (g a : Bool) : (bif g then some a else some false) = some (g && a) := by cases g <;> rfl
def opc (env : Env) (x : Operand) : D := (opd env x).core
def cgs (env : Env) (op : Op) : Bool := op.operands.toList.all fun x => (opd env x).cg

/-- An operation that a guard has let through. -/
def gev (P : Program) (σ : Store) (env : Env) (op : Op) : PD :=
  match op with
  | .pick c a b => ((opd env c).cg = true ∧ (qpick (opc env c) (opd env a) (opd env b)).1, (qpick (opc env c) (opd env a) (opd env b)).2)
  | op => (cgs env op = true ∧ (qev P σ (opc env) op).1, (qev P σ (opc env) op).2)

def qv (P : Program) (gt : List (Nat × Nat)) (o : Oper) (env : Env) (σ : Store) : PD :=
  match o.guard with
  | none => qev P σ (opd env) o.op
  | some (j, want) => match (look gt j).bind fun t => gval (env t) want with
    | some g => ((g = true → (gev P σ env o.op).1), .cnd g (gev P σ env o.op).2)
    | none => PD.no

def PCallOp (P : Program) (ρ : Operand → D) (op : Op) (d : D) : Prop :=
  match op with
  | .call { callee := .value f, args := xs, .. } => match ρ f with
    | .fn fn fs cs => (isYield fn = true → cs = []) ∧ PCall P fn (fs ++ xs.toList.map ρ ++ cs) d
    | _ => False
  | _ => False

def isImm (imm : List Nat) (dst : Option Nat) : Bool := match dst with
  | some d => imm.contains d
  | none => false

def nv (P : Program) (imm : List Nat) (gt : List (Nat × Nat)) (o : Oper) (env : Env) (σ : Store) (κ X : D → Store → Prop) : Prop :=
  match o.guard with
  | none => nev P (isImm imm o.dst) σ (opd env) κ X o.op
  | some (j, want) => match (look gt j).bind fun t => gval (env t) want with
    | some g => (∃ d, (g = true → cgs env o.op = true ∧ PCallOp P (opc env) o.op d) ∧ κ (.cnd g d) σ) ∨
        ((g = true → cgs env o.op = true ∧ nev P (isImm imm o.dst) σ (opc env) κ X o.op) ∧ (g = false → κ (.v undef) σ))
    | none => False

def vop (P : Program) (imm : List Nat) (gt : List (Nat × Nat)) (o : Oper) (env : Env) (σ : Store) (κ : Env → Store → Prop) (X : D → Store → Prop) : Prop :=
  bif quiet o.op then (qv P gt o env σ).1 ∧ κ (env.put o.dst (qv P gt o env σ).2) σ
  else nv P imm gt o env σ (fun d σ' => κ (env.put o.dst d) σ') X

def vops (P : Program) (imm : List Nat) (gt : List (Nat × Nat)) (κ : Env → Store → Prop) (X : D → Store → Prop) : List Oper → Env → Store → Prop
  | [], env, σ => κ env σ
  | o :: os, env, σ => vop P imm gt o env σ (fun env' σ' => vops P imm gt κ X os env' σ') X

def Box.isTail : Box → Bool
  | .tail .. => true
  | _ => false
/-- What may be read stays (tails of rows are not read). -/
def Ext (σ σ' : Store) : Prop := ∀ b x, σ.get b = some x → x.isTail = true ∨ σ'.get b = some x

/-- A call that is told to be one that only computes. -/
def softC (soft : List Nat) (o : Oper) : Bool := match o.op, o.dst with
  | .call { callee := .value _, .. }, some t => soft.contains t
  | _, _ => false

/-- A call's result, when it is d if it is made. -/
def pv (P : Program) (gt : List (Nat × Nat)) (o : Oper) (env : Env) (d : D) : PD :=
  match o.guard with
  | none => (PCallOp P (opd env) o.op d, d)
  | some (j, want) => match (look gt j).bind fun t => gval (env t) want with
    | some g => ((g = true → cgs env o.op = true ∧ PCallOp P (opc env) o.op d), .cnd g d)
    | none => PD.no

/-- Operations that write to what is there. -/
def isSt : Op → Bool
  | .store .. | .mapUpdate .. | .insert .. => true
  | _ => false
/-- Quiet operations that read the store. -/
def rdSt : Op → Bool
  | .load .. | .lookup .. | .convert .. => true
  | _ => false
/-- Whatever reads the store is bound to be done before. -/
def soloR (ops : Array Oper) (j : Nat) (o : Oper) : Bool := (List.range ops.size).all fun i => i == j || (match ops[i]? with | some p => !rdSt p.op | none => true) || o.after.any (fun e => Region.binds .any e && e.on == i)
def stOK (ops : Array Oper) : Bool := (List.range ops.size).all fun j => match ops[j]? with
  | some o => !isSt o.op || soloR ops j o
  | none => true

def vdr (P : Program) (imm soft : List Nat) (gt : List (Nat × Nat)) (κ : Env → Store → Prop) (X : D → Store → Prop) : List Oper → Env → Store → Prop
  | [], env, σ => κ env σ
  | o :: os, env, σ => bif softC soft o then ∃ d, (pv P gt o env d).1 ∧ vdr P imm soft gt κ X os (env.put o.dst (pv P gt o env d).2) σ
      else vop P imm gt o env σ (fun env' σ' => (isSt o.op = true ∨ Ext σ σ') ∧ vdr P imm soft gt κ X os env' σ') X

def okOp (nt : Nat) (o : Oper) : Bool := o.dst.all (· < nt) && (match o.op with | .defer _ => false | _ => true)
def rgOK (nt : Nat) (ops : Array Oper) (gt : List (Nat × Nat)) : Bool := ops.toList.all (okOp nt) && gtOK ops gt

def chk (soft : List Nat) (ops : Array Oper) : List Nat → Array Bool → Bool
  | [], listed => (Region.ready .any ops listed).isEmpty
  | i :: is, listed => (Region.ready .any ops listed).contains i && (match ops[i]? with
      | some o => ((quiet o.op || softC soft o) && Region.free .any ops listed i) || Region.ready .any ops listed == [i]
      | none => false) && chk soft ops is (listed.setIfInBounds i true)

def drOK (nt : Nat) (soft : List Nat) (ops : Array Oper) (gt : List (Nat × Nat)) (perm : List Nat) : Bool := rgOK nt ops gt && stOK ops && perm.length == ops.size && chk soft ops perm (Array.replicate ops.size false)

section
variable {P : Program} {M : Mem} {w : World} {σ : Store} {r : Option Nat} {nt : Nat} {ops : Array Oper} {imm : List Nat} {gt : List (Nat × Nat)}

/-! ### Guards -/
theorem getD_bool {tmps : Array Value} {t : Nat} {b : Bool} (h : tmps.getD t undef = .bool b) : tmps[t]? = some (.bool b) := by
  rw [Array.getD_eq_getD_getElem?] at h
  cases e : tmps[t]? with
  | none => rw [e] at h; simp [undef] at h
  | some v => rw [e] at h; simp at h; rw [h]

theorem wanted_of (hgt : GT ops gt) {env : Env} {a : Act} (he : EnvR M nt env a) {o : Oper} {j : Nat} {want g : Bool} (hg : o.guard = some (j, want)) (h : ((look gt j).bind fun t => gval (env t) want) = some g) :
    Region.wanted o (yielded ops a.tmps) = g := by
  simp only [Option.bind_eq_some_iff] at h
  obtain ⟨t, ht, hv⟩ := h
  replace ht := hgt _ _ ht
  unfold gtmp at ht
  simp only [Region.wanted, hg, yielded, ht, Option.bind_some]
  have hr := he.2 t
  unfold gval at hv
  split at hv
  · rename_i b hb
    rw [hb] at hr
    simp only [R] at hr
    rw [getD_bool hr]
    cases hv
    cases b <;> cases want <;> rfl
  · rename_i g' d hb
    rw [hb] at hr
    simp only [R] at hr
    cases g'
    · have h0 := hr.2 rfl
      cases hv
      cases e : a.tmps[t]? with
      | none => simp
      | some v =>
        rw [Array.getD_eq_getD_getElem?, e] at h0
        simp at h0
        subst h0
        simp [undef]
    · simp only [cond_true] at hv
      split at hv
      · rename_i b
        have h1 := getD_bool (hr.1 rfl)
        rw [h1]
        cases hv
        cases b <;> cases want <;> rfl
      · cases hv
  · cases hv

end

end Go.Proofs.Ytgccnkihonmlbaa

/- Own layer, part 6: all quiet operations together; triples over plain data; calls. -/
import Derived.Test.YtgccnkihonmlbaaA5
namespace Go.Proofs.Ytgccnkihonmlbaa
open Go Go.RowKit
set_option linter.unusedSimpArgs false
set_option linter.unusedVariables false

section
variable {P : Program} {M : Mem} {w : World} {σ : Store}

theorem lift_value {s : Sem Value} {v : Value} {w' : World} (h : s.run P w = .ok v w') : (do pure (Next.value (← s)) : Sem Next).run P w = .ok (.value v) w' := by
  simp only [Sem.run_bind, h, Result.andThen_ok, Sem.run_pure]

theorem RAll_map {ρ : Operand → D} {e : Operand → Value} (hρ : ∀ x, R M (ρ x) (e x)) : ∀ (xs : List Operand), RAll M (xs.map ρ) (xs.map e)
  | [] => by simp [RAll]
  | x :: xs => by simp only [List.map_cons, RAll]; exact ⟨hρ x, RAll_map hρ xs⟩

theorem RO_map {ρ : Operand → D} {e : Operand → Value} (hρ : ∀ x, R M (ρ x) (e x)) (x : Option Operand) : RO M (x.map ρ) (x.map e) := by
  cases x
  · trivial
  · exact hρ _

theorem map_toArray {α β : Type} (f : α → β) (xs : Array α) : xs.map f = List.toArray (xs.toList.map f) := by
  cases xs; simp

theorem qev_sound (hc : Conc M w σ) {ρ : Operand → D} {e : Operand → Value} (hρ : ∀ x, R M (ρ x) (e x)) (o : Oper) (h : (qev P σ ρ o.op).1) :
    ∃ v, (execOp e o).run P w = .ok (.value v) w ∧ R M (qev P σ ρ o.op).2 v := by
  obtain ⟨dst, op, ty, pos, after, guard⟩ := o
  cases op <;> try exact h.elim
  case move x => exact ⟨e x, rfl, hρ x⟩
  case assign x => exact ⟨e x, rfl, hρ x⟩
  case pick c a b => exact pick_sound h (hρ c) (hρ a) (hρ b)
  case binOp op T x y yt =>
    obtain ⟨v, h1, h2⟩ := bop_sound (w := w) (ox := x) (oy := y) h (hρ x) (hρ y)
    exact ⟨v, lift_value h1, h2⟩
  case unOp op T x =>
    obtain ⟨v, h1, h2⟩ := uop_sound (P := P) (w := w) h (hρ x)
    exact ⟨v, lift_value h1, h2⟩
  case convert s d x =>
    obtain ⟨v, h1, h2⟩ := conv_sound hc h (hρ x)
    exact ⟨v, lift_value h1, h2⟩
  case field T x i =>
    obtain ⟨v, h1, h2⟩ := field_sound (w := w) h (hρ x)
    exact ⟨v, lift_value h1, h2⟩
  case fieldAddr T x i =>
    obtain ⟨v, h1, h2⟩ := faddr_sound (w := w) h (hρ x)
    exact ⟨v, lift_value h1, h2⟩
  case indexAddr T x i =>
    obtain ⟨v, h1, h2⟩ := iaddr_sound (w := w) h (hρ x) (hρ i)
    exact ⟨v, lift_value h1, h2⟩
  case index T x i =>
    obtain ⟨v, h1, h2⟩ := index_sound (w := w) h (hρ x) (hρ i)
    exact ⟨v, lift_value h1, h2⟩
  case load T x =>
    obtain ⟨v, h1, h2⟩ := load_sound hc h (hρ x)
    exact ⟨v, lift_value h1, h2⟩
  case lookup T x i ok =>
    obtain ⟨v, h1, h2⟩ := look_sound hc h (hρ x) (hρ i)
    exact ⟨v, lift_value h1, h2⟩
  case extract x i =>
    obtain ⟨v, h1, h2⟩ := extract_sound (P := P) (w := w) h (hρ x)
    exact ⟨v, lift_value h1, h2⟩
  case build T parts =>
    obtain ⟨v, h1, h2⟩ := build_sound (P := P) (w := w) (M := M) (parts := parts.toList.map fun p => (p.1, e p.2)) h (by simp [Function.comp_def])
      (by
        have := RAll_map hρ (parts.toList.map Prod.snd)
        simpa [Function.comp_def] using this)
    refine ⟨v, lift_value ?_, h2⟩
    rw [map_toArray]
    exact h1
  case makeInterface T x =>
    obtain ⟨v, h1, h2⟩ := iface_sound (w := w) h (hρ x)
    exact ⟨v, lift_value h1, h2⟩
  case makeFunc f fs cs =>
    refine ⟨_, rfl, ?_⟩
    simp only [qev, R, map_toArray]
    exact ⟨_, _, rfl, RAll_map hρ _, RAll_map hρ _⟩
  case slice T x lo hi mx =>
    obtain ⟨v, h1, h2⟩ := slice_sound (w := w) h (hρ x) (RO_map hρ lo) (RO_map hρ hi) (RO_map hρ mx)
    exact ⟨v, lift_value h1, h2⟩
  case nilCheck x => exact nil_sound h (hρ x)
  case call c =>
    obtain ⟨callee, xs, ts⟩ := c
    cases callee <;> try exact h.elim
    rename_i b
    obtain ⟨v, h1, h2⟩ := builtin_sound (w := w) (σ := σ) (T := ty) (cs := xs.map fun | .const _ => true | _ => false) h (RAll_map hρ xs.toList)
    refine ⟨v, ?_, h2⟩
    simp only [execOp, resolve, Sem.run_bind, Sem.run_pure, Result.andThen_ok, invoke, map_toArray e]
    exact h1

end

/-! ### Triples -/
abbrev WF (r : Option Nat) : Fence := { Fence.wide with round := r }

abbrev Env := Nat → D
def Env.set (e : Env) (i : Nat) (d : D) : Env := fun j => if j = i then d else e j
def Env.put (e : Env) (i : Option Nat) (d : D) : Env := match i with
  | some i => e.set i d
  | none => e
/-- An environment by its entries. -/
def mk : List (Nat × D) → Env
  | [] => fun _ => .top
  | (i, d) :: l => fun j => if j = i then d else mk l j

def EnvR (M : Mem) (nt : Nat) (env : Env) (a : Act) : Prop := a.tmps.size = nt ∧ ∀ i, R M (env i) (a.tmps.getD i undef)

theorem EnvR.mono {M M' : Mem} (h : Mem.le M M') {nt : Nat} {env : Env} {a : Act} (he : EnvR M nt env a) : EnvR M' nt env a :=
  ⟨he.1, fun i => (he.2 i).mono h _ _⟩

theorem EnvR.put {M : Mem} {nt : Nat} {env : Env} {a : Act} (he : EnvR M nt env a) {dst : Option Nat} (hd : dst.all (· < nt) = true) {d : D} {v : Value} (hv : R M d v) : EnvR M nt (env.put dst d) (a.put dst v) := by
  cases dst with
  | none => exact he
  | some i =>
    simp only [Option.all_some, decide_eq_true_eq] at hd
    refine ⟨by simp [Act.put, he.1], fun j => ?_⟩
    simp only [Env.put, Env.set, Act.put]
    by_cases e : j = i
    · subst e
      rw [if_pos rfl]
      have : (a.tmps.setIfInBounds j v).getD j undef = v := by
        simp [Array.getD, Array.size_setIfInBounds, he.1, hd]
      rw [this]
      exact hv
    · rw [if_neg e]
      have : (a.tmps.setIfInBounds i v).getD j undef = a.tmps.getD j undef := by
        simp only [Array.getD_eq_getD_getElem?, Array.getElem?_setIfInBounds]
        rw [if_neg (fun h => e h.symm)]
      rw [this]
      exact he.2 j

/-- An operand as plain data. -/
def opd (env : Env) : Operand → D
  | .tmp t => env t
  | .const v => .ofV v
  | .global g => .v (.pointer (some ⟨g, 0, none⟩))
  | .func f => .fn (.func f) [] []

theorem opd_R {M : Mem} {nt : Nat} {env : Env} {a : Act} (he : EnvR M nt env a) (x : Operand) : R M (opd env x) (a.eval x) := by
  cases x with
  | tmp t => exact he.2 t
  | const v => exact R_ofV M v
  | global g => simp only [opd, R]; rfl
  | func f => simp only [opd, R]; exact ⟨[], [], rfl, by simp [RAll], by simp [RAll]⟩

inductive AE where
  | normal | exit (id : Nat) | goto (l : Nat) | ret | pan (d : D)

def AER (M : Mem) : AE → Exit → Prop
  | .normal, .normal => True
  | .exit i, .exit j => i = j
  | .goto i, .goto j => i = j
  | .ret, .ret => True
  | .pan d, .panic [c] => ∃ v, c = { v, recovered := false } ∧ R M d v
  | _, _ => False

/-- The marks that loops over functions leave for the function's end. -/
def DefOK (B : Nat) (σ : Store) (w : World) (ds : List Deferred) : Prop :=
  B ≤ w.heap.size ∧ ∃ Ds : List Nat, ds = Ds.map (fun D => { target := .collected D, args := #[] }) ∧ Ds.Nodup ∧ ∀ D ∈ Ds, B ≤ D ∧ w.heap[D]? = some (.deferred (some [])) ∧ D ∉ σ.keys

theorem DefOK.nil {B : Nat} {σ : Store} {w : World} (h : B ≤ w.heap.size) : DefOK B σ w [] := ⟨h, [], rfl, List.nodup_nil, by simp⟩

theorem DefOK.step {B : Nat} {M M' : Mem} {w w' : World} {σ σ' : Store} {ds : List Deferred} (h : DefOK B σ w ds) (s : Step M w σ M' w' σ') : DefOK B σ' w' ds := by
  obtain ⟨hB, Ds, e, hn, hd⟩ := h
  refine ⟨Nat.le_trans hB s.size, Ds, e, hn, fun D hD => ?_⟩
  obtain ⟨h0, h1, h2⟩ := hd D hD
  have hlt : D < w.heap.size := (Array.getElem?_eq_some_iff.1 h1).1
  exact ⟨h0, (s.block D hlt h2).trans h1, fun hc => (s.keys D hc).elim h2 (fun hs => by omega)⟩

/-- What a triple owes at the end of a piece of code. -/
def rgPost (M : Mem) (w : World) (σ : Store) (nt B : Nat) (Q : AE → Env → Store → Prop) : Exit → Act → World → Prop :=
  fun e a' w' => ∃ M' env' σ' ae, Step M w σ M' w' σ' ∧ Conc M' w' σ' ∧ EnvR M' nt env' a' ∧ DefOK B σ' w' a'.defers ∧ AER M' ae e ∧ Q ae env' σ'

def AWp (P : Program) (r : Option Nat) (nt : Nat) (c : Code) (env : Env) (σ : Store) (Q : AE → Env → Store → Prop) : Prop :=
  ∀ M w a B, Conc M w σ → EnvR M nt env a → DefOK B σ w a.defers → c.wpIn (WF r) 0 P (rgPost M w σ nt B Q) a w

/-- How a call ends. -/
inductive Res where
  | ret (d : D) | pan (d : D)

def ResR (M : Mem) : Res → Ending → Prop
  | .ret d, .returned v => R M d v
  | .pan d, .panicked [c] => ∃ v, c = { v, recovered := false } ∧ R M d v
  | _, _ => False

/-- A call of a function value's code with all its arguments (first, own, captured). -/
def CallsV (P : Program) (f : Fn) (vs : Array Value) (w : World) (Q : Ending → World → Prop) : Prop :=
  match f with
  | .func g => ((callFunc g vs).run P w = .ok (.enter g vs) w ∧ CallsIn Fence.wide 0 P g vs w Q) ∨ ∃ v w', (callFunc g vs).run P w = .ok (.value v) w' ∧ Q (.returned v) w'
  | .yield l => ∃ fn tmps assign body, (Instr.yield l vs).run P w = .ok (.round l fn tmps assign body) w ∧ RoundIn Fence.wide 0 P l fn tmps assign body w Q
  | _ => False

def ACall (P : Program) (f : Fn) (args : List D) (σ : Store) (Q : Res → Store → Prop) : Prop :=
  ∀ M w vs, Conc M w σ → RAll M args vs →
    CallsV P f (List.toArray vs) w fun e w' => ∃ M' σ' r, Step M w σ M' w' σ' ∧ Conc M' w' σ' ∧ ResR M' r e ∧ Q r σ'

/-- A call that computes: its result, and the store as it was. -/
def PCall (P : Program) (f : Fn) (args : List D) (d : D) : Prop := ACall P f args [] fun r σ' => r = .ret d ∧ σ' = []

end Go.Proofs.Ytgccnkihonmlbaa

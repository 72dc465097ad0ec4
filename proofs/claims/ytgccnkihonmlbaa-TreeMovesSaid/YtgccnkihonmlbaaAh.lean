/- Own layer, part 17: how a region's ops are evaluated, one head step at a time. -/
import Derived.Test.YtgccnkihonmlbaaAg
namespace Go.Proofs.Ytgccnkihonmlbaa
open Go Go.RowKit
set_option linter.unusedSimpArgs false
set_option linter.unusedVariables false

section
variable {P : Program} {σ : Store}

theorem mk_cons (i : Nat) (d : D) (l : List (Nat × D)) (j : Nat) : mk ((i, d) :: l) j = if j = i then d else mk l j := rfl
theorem mk_nil (j : Nat) : mk [] j = .top := rfl
theorem set_at (env : Env) (i j : Nat) (d : D) : (env.set i d) j = if j = i then d else env j := rfl
theorem put_some (env : Env) (i : Nat) (d : D) : env.put (some i) d = env.set i d := rfl
theorem put_none (env : Env) (d : D) : env.put none d = env := rfl
theorem prune_eq (keep : List Nat) (env : Env) : prune keep env = mk (keep.map fun i => (i, env i)) := rfl

theorem ofC_int (k : IntKind) (n : Int) (h : decide (k.min ≤ n ∧ n ≤ k.max) = true) : D.ofC (.int k n) = .int k n := by
  unfold D.ofC
  exact if_pos (of_decide_eq_true h)
theorem ofC_bool (b : Bool) : D.ofC (.bool b) = .bool b := rfl
theorem ofC_nil : D.ofC (.slice none 0 0) = .sl 0 [] .nil := rfl
theorem ofC_str (l : List UInt8) (h : decide (l.length ≤ 65536) = true) : D.ofC (.string ⟨l.toArray⟩) = .str l := by
  unfold D.ofC
  simp only []
  rw [if_pos (of_decide_eq_true h)]

def gof : Option Bool → Bool
  | some g => g
  | none => false
def gq (gt : List (Nat × Nat)) (env : Env) (j : Nat) (want : Bool) : Option Bool := (look gt j).bind fun t => gval (env t) want

/-- What is left of a region, once an operation has its result. -/
def vK (P : Program) (imm : List Nat) (gt : List (Nat × Nat)) (κ : Env → Store → Prop) (X : D → Store → Prop) (os : List Oper) (env : Env) (dst : Option Nat) : D → Store → Prop :=
  fun d σ' => vops P imm gt κ X os (env.put dst d) σ'

def isCall : Op → Bool
  | .call { callee := .value _, .. } => true
  | _ => false

/-- Neither quiet, nor a call, nor writing to what is there. -/
def nqk (op : Op) : Bool := !quiet op && !isCall op && !isSt op
theorem nqk_spec {op : Op} (h : nqk op = true) : quiet op = false ∧ isCall op = false ∧ isSt op = false := by
  simp only [nqk, Bool.and_eq_true, Bool.not_eq_true'] at h
  exact ⟨h.1.1, h.1.2, h.2⟩

/-! ### Which operations are quiet -/
section
theorem quiet_move {a0} : quiet (.move a0) = true := by simp only [quiet]
theorem quiet_assign {a0} : quiet (.assign a0) = true := by simp only [quiet]
theorem quiet_pick {a0 a1 a2} : quiet (.pick a0 a1 a2) = true := by simp only [quiet]
theorem quiet_binOp {a0 a1 a2 a3 a4} : quiet (.binOp a0 a1 a2 a3 a4) = true := by simp only [quiet]
theorem quiet_unOp {a0 a1 a2} : quiet (.unOp a0 a1 a2) = true := by simp only [quiet]
theorem quiet_convert {a0 a1 a2} : quiet (.convert a0 a1 a2) = true := by simp only [quiet]
theorem quiet_field {a0 a1 a2} : quiet (.field a0 a1 a2) = true := by simp only [quiet]
theorem quiet_fieldAddr {a0 a1 a2} : quiet (.fieldAddr a0 a1 a2) = true := by simp only [quiet]
theorem quiet_indexAddr {a0 a1 a2} : quiet (.indexAddr a0 a1 a2) = true := by simp only [quiet]
theorem quiet_index {a0 a1 a2} : quiet (.index a0 a1 a2) = true := by simp only [quiet]
theorem quiet_load {a0 a1} : quiet (.load a0 a1) = true := by simp only [quiet]
theorem quiet_lookup {a0 a1 a2 a3} : quiet (.lookup a0 a1 a2 a3) = true := by simp only [quiet]
theorem quiet_extract {a0 a1} : quiet (.extract a0 a1) = true := by simp only [quiet]
theorem quiet_build {a0 a1} : quiet (.build a0 a1) = true := by simp only [quiet]
theorem quiet_makeInterface {a0 a1} : quiet (.makeInterface a0 a1) = true := by simp only [quiet]
theorem quiet_makeFunc {a0 a1 a2} : quiet (.makeFunc a0 a1 a2) = true := by simp only [quiet]
theorem quiet_slice {a0 a1 a2 a3 a4} : quiet (.slice a0 a1 a2 a3 a4) = true := by simp only [quiet]
theorem quiet_nilCheck {a0} : quiet (.nilCheck a0) = true := by simp only [quiet]
theorem quiet_alloc {a0} : quiet (.alloc a0) = false := by simp only [quiet]
theorem isSt_alloc {a0} : isSt (.alloc a0) = false := by simp only [isSt]
theorem nqk_alloc {a0} : nqk (.alloc a0) = true := by simp only [nqk, quiet, isCall, isSt, Bool.not_false, Bool.and_self]
theorem isCall_alloc {a0} : isCall (.alloc a0) = false := by simp only [isCall]
theorem quiet_box {a0 a1} : quiet (.box a0 a1) = false := by simp only [quiet]
theorem isSt_box {a0 a1} : isSt (.box a0 a1) = false := by simp only [isSt]
theorem nqk_box {a0 a1} : nqk (.box a0 a1) = true := by simp only [nqk, quiet, isCall, isSt, Bool.not_false, Bool.and_self]
theorem isCall_box {a0 a1} : isCall (.box a0 a1) = false := by simp only [isCall]
theorem quiet_buildSlice {a0 a1 a2} : quiet (.buildSlice a0 a1 a2) = false := by simp only [quiet]
theorem isSt_buildSlice {a0 a1 a2} : isSt (.buildSlice a0 a1 a2) = false := by simp only [isSt]
theorem nqk_buildSlice {a0 a1 a2} : nqk (.buildSlice a0 a1 a2) = true := by simp only [nqk, quiet, isCall, isSt, Bool.not_false, Bool.and_self]
theorem isCall_buildSlice {a0 a1 a2} : isCall (.buildSlice a0 a1 a2) = false := by simp only [isCall]
theorem quiet_makeMap {a0 a1} : quiet (.makeMap a0 a1) = false := by simp only [quiet]
theorem isSt_makeMap {a0 a1} : isSt (.makeMap a0 a1) = false := by simp only [isSt]
theorem nqk_makeMap {a0 a1} : nqk (.makeMap a0 a1) = true := by simp only [nqk, quiet, isCall, isSt, Bool.not_false, Bool.and_self]
theorem isCall_makeMap {a0 a1} : isCall (.makeMap a0 a1) = false := by simp only [isCall]
theorem quiet_mapUpdate {a0 a1 a2 a3} : quiet (.mapUpdate a0 a1 a2 a3) = false := by simp only [quiet]
theorem isSt_mapUpdate {a0 a1 a2 a3} : isSt (.mapUpdate a0 a1 a2 a3) = true := by simp only [isSt]
theorem isCall_mapUpdate {a0 a1 a2 a3} : isCall (.mapUpdate a0 a1 a2 a3) = false := by simp only [isCall]
theorem quiet_insert {a0 a1 a2 a3} : quiet (.insert a0 a1 a2 a3) = false := by simp only [quiet]
theorem isSt_insert {a0 a1 a2 a3} : isSt (.insert a0 a1 a2 a3) = true := by simp only [isSt]
theorem isCall_insert {a0 a1 a2 a3} : isCall (.insert a0 a1 a2 a3) = false := by simp only [isCall]
theorem quiet_entry {a0} : quiet (.entry a0) = false := by simp only [quiet]
theorem isSt_entry {a0} : isSt (.entry a0) = false := by simp only [isSt]
theorem nqk_entry {a0} : nqk (.entry a0) = true := by simp only [nqk, quiet, isCall, isSt, Bool.not_false, Bool.and_self]
theorem isCall_entry {a0} : isCall (.entry a0) = false := by simp only [isCall]
theorem quiet_store {a0 a1 a2} : quiet (.store a0 a1 a2) = false := by simp only [quiet]
theorem isSt_store {a0 a1 a2} : isSt (.store a0 a1 a2) = true := by simp only [isSt]
theorem isCall_store {a0 a1 a2} : isCall (.store a0 a1 a2) = false := by simp only [isCall]
theorem quiet_range {a0 a1} : quiet (.range a0 a1) = false := by simp only [quiet]
theorem isSt_range {a0 a1} : isSt (.range a0 a1) = false := by simp only [isSt]
theorem nqk_range {a0 a1} : nqk (.range a0 a1) = true := by simp only [nqk, quiet, isCall, isSt, Bool.not_false, Bool.and_self]
theorem isCall_range {a0 a1} : isCall (.range a0 a1) = false := by simp only [isCall]
theorem quiet_next {a0 a1} : quiet (.next a0 a1) = false := by simp only [quiet]
theorem isSt_next {a0 a1} : isSt (.next a0 a1) = false := by simp only [isSt]
theorem nqk_next {a0 a1} : nqk (.next a0 a1) = true := by simp only [nqk, quiet, isCall, isSt, Bool.not_false, Bool.and_self]
theorem isCall_next {a0 a1} : isCall (.next a0 a1) = false := by simp only [isCall]
theorem quiet_makeSlice {a0 a1 a2} : quiet (.makeSlice a0 a1 a2) = false := by simp only [quiet]
theorem isSt_makeSlice {a0 a1 a2} : isSt (.makeSlice a0 a1 a2) = false := by simp only [isSt]
theorem nqk_makeSlice {a0 a1 a2} : nqk (.makeSlice a0 a1 a2) = true := by simp only [nqk, quiet, isCall, isSt, Bool.not_false, Bool.and_self]
theorem isCall_makeSlice {a0 a1 a2} : isCall (.makeSlice a0 a1 a2) = false := by simp only [isCall]
theorem quiet_panic {a0} : quiet (.panic a0) = false := by simp only [quiet]
theorem isSt_panic {a0} : isSt (.panic a0) = false := by simp only [isSt]
theorem nqk_panic {a0} : nqk (.panic a0) = true := by simp only [nqk, quiet, isCall, isSt, Bool.not_false, Bool.and_self]
theorem isCall_panic {a0} : isCall (.panic a0) = false := by simp only [isCall]
theorem quiet_len {a b} : quiet (.call ⟨.builtin .len, a, b⟩) = true := by simp only [quiet]
theorem quiet_cap {a b} : quiet (.call ⟨.builtin .cap, a, b⟩) = true := by simp only [quiet]
theorem quiet_min {a b} : quiet (.call ⟨.builtin .min, a, b⟩) = true := by simp only [quiet]
theorem quiet_max {a b} : quiet (.call ⟨.builtin .max, a, b⟩) = true := by simp only [quiet]
theorem quiet_append {a b} : quiet (.call ⟨.builtin .append, a, b⟩) = false := by simp only [quiet]
theorem isSt_append {a b} : isSt (.call ⟨.builtin .append, a, b⟩) = false := by simp only [isSt]
theorem nqk_append {a b} : nqk (.call ⟨.builtin .append, a, b⟩) = true := by simp only [nqk, quiet, isCall, isSt, Bool.not_false, Bool.and_self]
theorem isCall_append {a b} : isCall (.call ⟨.builtin .append, a, b⟩) = false := by simp only [isCall]
theorem quiet_copy {a b} : quiet (.call ⟨.builtin .copy, a, b⟩) = false := by simp only [quiet]
theorem isSt_copy {a b} : isSt (.call ⟨.builtin .copy, a, b⟩) = false := by simp only [isSt]
theorem nqk_copy {a b} : nqk (.call ⟨.builtin .copy, a, b⟩) = true := by simp only [nqk, quiet, isCall, isSt, Bool.not_false, Bool.and_self]
theorem isCall_copy {a b} : isCall (.call ⟨.builtin .copy, a, b⟩) = false := by simp only [isCall]
theorem quiet_delete {a b} : quiet (.call ⟨.builtin .delete, a, b⟩) = false := by simp only [quiet]
theorem isSt_delete {a b} : isSt (.call ⟨.builtin .delete, a, b⟩) = false := by simp only [isSt]
theorem nqk_delete {a b} : nqk (.call ⟨.builtin .delete, a, b⟩) = true := by simp only [nqk, quiet, isCall, isSt, Bool.not_false, Bool.and_self]
theorem isCall_delete {a b} : isCall (.call ⟨.builtin .delete, a, b⟩) = false := by simp only [isCall]
end

/-- A call, with its arguments. -/
def CallK (P : Program) (f : D) (xs : List D) (K X : D → Store → Prop) (σ : Store) : Prop :=
  match f with
  | .fn fn fs cs => (isYield fn = true → cs = []) ∧ ((∃ d, PCall P fn (fs ++ xs ++ cs) d ∧ K d σ) ∨
        ACall P fn (fs ++ xs ++ cs) σ fun r σ' => match r with
          | .ret d => K d σ'
          | .pan d => X d σ')
  | _ => False

/-- A call that a guard may keep from being made; its result is plain data, whichever it is. -/
def GCallK (P : Program) (g : Option Bool) (ok : Bool) (f : D) (xs : List D) (K : D → Store → Prop) (σ : Store) : Prop :=
  ∃ b, g = some b ∧ ∃ d, (b = true → ok = true ∧ match f with
    | .fn fn fs cs => (isYield fn = true → cs = []) ∧ PCall P fn (fs ++ xs ++ cs) d
    | _ => False) ∧ K (.cnd b d) σ

variable {imm : List Nat} {gt : List (Nat × Nat)} {κ : Env → Store → Prop} {X : D → Store → Prop}

theorem vo_nil (env : Env) : vops P imm gt κ X [] env σ = κ env σ := rfl
theorem vK_eq (os : List Oper) (env : Env) (dst : Option Nat) (d : D) : vK P imm gt κ X os env dst d σ = vops P imm gt κ X os (env.put dst d) σ := rfl
theorem vo_q {dst : Option Nat} {op : Op} {T : TypeId} {pos : String} {aft : Array Edge} {os : List Oper} {env : Env} (h : quiet op = true) :
    vops P imm gt κ X (⟨dst, op, T, pos, aft, none⟩ :: os) env σ = ((qev P σ (opd env) op).1 ∧ vops P imm gt κ X os (env.put dst (qev P σ (opd env) op).2) σ) := by
  show vop P imm gt _ env σ _ X = _
  unfold vop
  simp only [h, cond_true, qv]
theorem vo_g {dst : Option Nat} {op : Op} {T : TypeId} {pos : String} {aft : Array Edge} {os : List Oper} {env : Env} {j : Nat} {want : Bool} (h : quiet op = true) :
    vops P imm gt κ X (⟨dst, op, T, pos, aft, some (j, want)⟩ :: os) env σ = (((gq gt env j want).isSome = true ∧ (gof (gq gt env j want) = true → (gev P σ env op).1)) ∧
      vops P imm gt κ X os (env.put dst (.cnd (gof (gq gt env j want)) (gev P σ env op).2)) σ) := by
  show vop P imm gt _ env σ _ X = _
  unfold vop
  simp only [h, cond_true, qv]
  unfold gq
  cases e : ((look gt j).bind fun t => gval (env t) want) with
  | none => simp [PD.no]
  | some g => simp [gof]
theorem vo_n {dst : Option Nat} {op : Op} {T : TypeId} {pos : String} {aft : Array Edge} {os : List Oper} {env : Env} (h : quiet op = false) (hc : isCall op = false) :
    vops P imm gt κ X (⟨dst, op, T, pos, aft, none⟩ :: os) env σ = nev P (isImm imm dst) σ (opd env) (vK P imm gt κ X os env dst) X op := by
  show vop P imm gt _ env σ _ X = _
  unfold vop
  simp only [h, cond_false, nv]
  rfl
theorem vo_c {dst : Option Nat} {f : Operand} {xs : Array Operand} {ts : Array TypeId} {T : TypeId} {pos : String} {aft : Array Edge} {os : List Oper} {env : Env} :
    vops P imm gt κ X (⟨dst, .call ⟨.value f, xs, ts⟩, T, pos, aft, none⟩ :: os) env σ = CallK P (opd env f) (xs.toList.map (opd env)) (vK P imm gt κ X os env dst) X σ := by
  show vop P imm gt _ env σ _ X = _
  unfold vop
  simp only [quiet, cond_false, nv]
  rfl
theorem vo_gc {dst : Option Nat} {f : Operand} {xs : Array Operand} {ts : Array TypeId} {T : TypeId} {pos : String} {aft : Array Edge} {os : List Oper} {env : Env} {j : Nat} {want : Bool}
    (h : GCallK P (gq gt env j want) (cgs env (.call ⟨.value f, xs, ts⟩)) (opc env f) (xs.toList.map (opc env)) (vK P imm gt κ X os env dst) σ) :
    vops P imm gt κ X (⟨dst, .call ⟨.value f, xs, ts⟩, T, pos, aft, some (j, want)⟩ :: os) env σ := by
  obtain ⟨b, hb, d, h1, h2⟩ := h
  show vop P imm gt _ env σ _ X
  unfold vop
  simp only [quiet, cond_false, nv]
  unfold gq at hb
  simp only [hb]
  refine .inl ⟨d, fun e => ?_, h2⟩
  obtain ⟨h3, h4⟩ := h1 e
  refine ⟨h3, ?_⟩
  simp only [PCallOp]
  revert h4
  cases opc env f <;> exact id

/-- A call of a plain function that only computes. -/
theorem callF {g : Nat} {xs : List D} {d : D} {K X : D → Store → Prop} (h : PCall P (.func g) xs d) (hk : K d σ) : CallK P (.fn (.func g) [] []) xs K X σ := by
  unfold CallK
  exact ⟨fun e => by simp [isYield] at e, .inl ⟨d, by simpa using h, hk⟩⟩
theorem callA {g : Nat} {xs : List D} {Q : Res → Store → Prop} {K X : D → Store → Prop} (h : ACall P (.func g) xs σ Q) (hk : ∀ d σ', Q (.ret d) σ' → K d σ') (hx : ∀ d σ', Q (.pan d) σ' → X d σ') : CallK P (.fn (.func g) [] []) xs K X σ := by
  unfold CallK
  refine ⟨fun e => by simp [isYield] at e, .inr ?_⟩
  have := h.mono (Q' := fun r σ' => match r with | .ret d => K d σ' | .pan d => X d σ') fun r σ' hq => by
    cases r with
    | ret d => exact hk d σ' hq
    | pan d => exact hx d σ' hq
  simpa using this
theorem gcallF {g : Nat} {b ok : Bool} {xs : List D} {d : D} {K : D → Store → Prop} (h : b = true → ok = true ∧ PCall P (.func g) xs d) (hk : K (.cnd b d) σ) : GCallK P (some b) ok (.fn (.func g) [] []) xs K σ :=
  ⟨b, rfl, d, fun e => ⟨(h e).1, fun e' => by simp [isYield] at e', by simpa using (h e).2⟩, hk⟩

end

end Go.Proofs.Ytgccnkihonmlbaa

/- Own layer, part 17: how a region's ops are evaluated, one head step at a time. -/
import Derived.Test.YtfjnohmdilmfhaaGreatDoorY01
import Derived.ProofKit
namespace Go.Proofs.YtfjnohmdilmfhaaGreatDoor
open Go Go.RowKit
set_option linter.unusedSimpArgs false
set_option linter.unusedVariables false
section
variable {P : Program} {σ : Store}
theorem mk_cons (i : Nat) (d : D) (l : List (Nat × D)) (j : Nat) : mk ((i, d) :: l) j = if j = i then d else mk l j := rfl
theorem mk_nil (j : Nat) : mk [] j = .top := rfl
theorem set_at (env : Env) (i j : Nat) (d : D) : (env.set i d) j = if j = i then d else env j := rfl
theorem put_some (env : Env) (i : Nat) (d : D) : env.put (some i) d = env.set i d := rfl
theorem put_none (env : Env) (d : D) : env.put none d = env := rfl
theorem prune_eq (keep : List Nat) (env : Env) : prune keep env = mk (keep.map fun i => (i, env i)) := rfl
theorem ofC_int (k : IntKind) (n : Int) (h : decide (k.min ≤ n ∧ n ≤ k.max) = true) : D.ofC (.int k n) = .int k n := by
 unfold D.ofC
 exact if_pos (of_decide_eq_true h)
theorem ofC_bool (b : Bool) : D.ofC (.bool b) = .bool b := rfl
theorem ofC_nil : D.ofC (.slice none 0 0) = .sl 0 [] .nil := rfl
theorem ofC_str (l : List UInt8) (h : decide (l.length ≤ 65536) = true) : D.ofC (.string ⟨l.toArray⟩) = .str l := by
 unfold D.ofC
 simp only []
 rw [if_pos (of_decide_eq_true h)]
def gof : Option Bool → Bool
 | some g => g
 | none => false
def gq (gt : List (Nat × Nat)) (env : Env) (j : Nat) (want : Bool) : Option Bool := (look gt j).bind fun t => gval (env t) want
/-- What is left of a region, once an operation has its result. -/
def vK (P : Program) (imm : List Nat) (gt : List (Nat × Nat)) (κ : Env → Store → Prop) (X : D → Store → Prop) (os : List Oper) (env : Env) (dst : Option Nat) : D → Store → Prop :=
 fun d σ' => vops P imm gt κ X os (env.put dst d) σ'
def isCall : Op → Bool
 | .call { callee := .value _, .. } => true
 | _ => false
/-- Neither quiet, nor a call, nor writing to what is there. -/
def nqk (op : Op) : Bool := !quiet op && !isCall op && !isSt op && !isAp op
theorem nqk_spec {op : Op} (h : nqk op = true) : quiet op = false ∧ isCall op = false ∧ isSt op = false ∧ isAp op = false := by
 simp only [nqk, Bool.and_eq_true, Bool.not_eq_true'] at h
 exact ⟨h.1.1.1, h.1.1.2, h.1.2, h.2⟩
/-! ### Which operations are quiet -/
section
theorem quiet_move {a0} : quiet (.move a0) = true := by simp only [quiet]
theorem quiet_assign {a0} : quiet (.assign a0) = true := by simp only [quiet]
theorem quiet_pick {a0 a1 a2} : quiet (.pick a0 a1 a2) = true := by simp only [quiet]
theorem quiet_binOp {a0 a1 a2 a3 a4} : quiet (.binOp a0 a1 a2 a3 a4) = true := by simp only [quiet]
theorem quiet_unOp {a0 a1 a2} : quiet (.unOp a0 a1 a2) = true := by simp only [quiet]
theorem quiet_convert {a0 a1 a2} : quiet (.convert a0 a1 a2) = true := by simp only [quiet]
theorem quiet_field {a0 a1 a2} : quiet (.field a0 a1 a2) = true := by simp only [quiet]
theorem quiet_fieldAddr {a0 a1 a2} : quiet (.fieldAddr a0 a1 a2) = true := by simp only [quiet]
theorem quiet_indexAddr {a0 a1 a2} : quiet (.indexAddr a0 a1 a2) = true := by simp only [quiet]
theorem quiet_index {a0 a1 a2} : quiet (.index a0 a1 a2) = true := by simp only [quiet]
theorem quiet_load {a0 a1} : quiet (.load a0 a1) = true := by simp only [quiet]
theorem quiet_lookup {a0 a1 a2 a3} : quiet (.lookup a0 a1 a2 a3) = true := by simp only [quiet]
theorem quiet_extract {a0 a1} : quiet (.extract a0 a1) = true := by simp only [quiet]
theorem quiet_build {a0 a1} : quiet (.build a0 a1) = true := by simp only [quiet]
theorem quiet_makeInterface {a0 a1} : quiet (.makeInterface a0 a1) = true := by simp only [quiet]
theorem quiet_makeFunc {a0 a1 a2} : quiet (.makeFunc a0 a1 a2) = true := by simp only [quiet]
theorem quiet_slice {a0 a1 a2 a3 a4} : quiet (.slice a0 a1 a2 a3 a4) = true := by simp only [quiet]
theorem quiet_nilCheck {a0} : quiet (.nilCheck a0) = true := by simp only [quiet]
theorem quiet_sap {a0 a1} : quiet (.sliceToArrayPointer a0 a1) = true := by simp only [quiet]
theorem quiet_alloc {a0} : quiet (.alloc a0) = false := by simp only [quiet]
theorem isSt_alloc {a0} : isSt (.alloc a0) = false := by simp only [isSt]
theorem nqk_alloc {a0} : nqk (.alloc a0) = true := by simp only [nqk, quiet, isCall, isSt, isAp, Bool.not_false, Bool.and_self]
theorem isCall_alloc {a0} : isCall (.alloc a0) = false := by simp only [isCall]
theorem quiet_box {a0 a1} : quiet (.box a0 a1) = false := by simp only [quiet]
theorem isSt_box {a0 a1} : isSt (.box a0 a1) = false := by simp only [isSt]
theorem nqk_box {a0 a1} : nqk (.box a0 a1) = true := by simp only [nqk, quiet, isCall, isSt, isAp, Bool.not_false, Bool.and_self]
theorem isCall_box {a0 a1} : isCall (.box a0 a1) = false := by simp only [isCall]
theorem quiet_buildSlice {a0 a1 a2} : quiet (.buildSlice a0 a1 a2) = false := by simp only [quiet]
theorem isSt_buildSlice {a0 a1 a2} : isSt (.buildSlice a0 a1 a2) = false := by simp only [isSt]
theorem nqk_buildSlice {a0 a1 a2} : nqk (.buildSlice a0 a1 a2) = true := by simp only [nqk, quiet, isCall, isSt, isAp, Bool.not_false, Bool.and_self]
theorem isCall_buildSlice {a0 a1 a2} : isCall (.buildSlice a0 a1 a2) = false := by simp only [isCall]
theorem quiet_makeMap {a0 a1} : quiet (.makeMap a0 a1) = false := by simp only [quiet]
theorem isSt_makeMap {a0 a1} : isSt (.makeMap a0 a1) = false := by simp only [isSt]
theorem nqk_makeMap {a0 a1} : nqk (.makeMap a0 a1) = true := by simp only [nqk, quiet, isCall, isSt, isAp, Bool.not_false, Bool.and_self]
theorem isCall_makeMap {a0 a1} : isCall (.makeMap a0 a1) = false := by simp only [isCall]
theorem quiet_mapUpdate {a0 a1 a2 a3} : quiet (.mapUpdate a0 a1 a2 a3) = false := by simp only [quiet]
theorem isSt_mapUpdate {a0 a1 a2 a3} : isSt (.mapUpdate a0 a1 a2 a3) = true := by simp only [isSt]
theorem isCall_mapUpdate {a0 a1 a2 a3} : isCall (.mapUpdate a0 a1 a2 a3) = false := by simp only [isCall]
theorem quiet_insert {a0 a1 a2 a3} : quiet (.insert a0 a1 a2 a3) = false := by simp only [quiet]
theorem isSt_insert {a0 a1 a2 a3} : isSt (.insert a0 a1 a2 a3) = true := by simp only [isSt]
theorem isCall_insert {a0 a1 a2 a3} : isCall (.insert a0 a1 a2 a3) = false := by simp only [isCall]
theorem isSt_entry {a0} : isSt (.entry a0) = false := by simp only [isSt]
theorem nqk_entry {a0} : nqk (.entry a0) = true := by simp only [nqk, quiet, isCall, isSt, isAp, Bool.not_false, Bool.and_self]
theorem quiet_store {a0 a1 a2} : quiet (.store a0 a1 a2) = false := by simp only [quiet]
theorem isSt_store {a0 a1 a2} : isSt (.store a0 a1 a2) = true := by simp only [isSt]
theorem isCall_store {a0 a1 a2} : isCall (.store a0 a1 a2) = false := by simp only [isCall]
theorem quiet_range {a0 a1} : quiet (.range a0 a1) = false := by simp only [quiet]
theorem isSt_range {a0 a1} : isSt (.range a0 a1) = false := by simp only [isSt]
theorem nqk_range {a0 a1} : nqk (.range a0 a1) = true := by simp only [nqk, quiet, isCall, isSt, isAp, Bool.not_false, Bool.and_self]
theorem isCall_range {a0 a1} : isCall (.range a0 a1) = false := by simp only [isCall]
theorem quiet_next {a0 a1} : quiet (.next a0 a1) = false := by simp only [quiet]
theorem isSt_next {a0 a1} : isSt (.next a0 a1) = false := by simp only [isSt]
theorem nqk_next {a0 a1} : nqk (.next a0 a1) = true := by simp only [nqk, quiet, isCall, isSt, isAp, Bool.not_false, Bool.and_self]
theorem isCall_next {a0 a1} : isCall (.next a0 a1) = false := by simp only [isCall]
theorem quiet_makeSlice {a0 a1 a2} : quiet (.makeSlice a0 a1 a2) = false := by simp only [quiet]
theorem isSt_makeSlice {a0 a1 a2} : isSt (.makeSlice a0 a1 a2) = false := by simp only [isSt]
theorem nqk_makeSlice {a0 a1 a2} : nqk (.makeSlice a0 a1 a2) = true := by simp only [nqk, quiet, isCall, isSt, isAp, Bool.not_false, Bool.and_self]
theorem isCall_makeSlice {a0 a1 a2} : isCall (.makeSlice a0 a1 a2) = false := by simp only [isCall]
theorem quiet_panic {a0} : quiet (.panic a0) = false := by simp only [quiet]
theorem isSt_panic {a0} : isSt (.panic a0) = false := by simp only [isSt]
theorem nqk_panic {a0} : nqk (.panic a0) = true := by simp only [nqk, quiet, isCall, isSt, isAp, Bool.not_false, Bool.and_self]
theorem isCall_panic {a0} : isCall (.panic a0) = false := by simp only [isCall]
theorem quiet_len {a b} : quiet (.call ⟨.builtin .len, a, b⟩) = true := by simp only [quiet]
theorem quiet_cap {a b} : quiet (.call ⟨.builtin .cap, a, b⟩) = true := by simp only [quiet]
theorem quiet_min {a b} : quiet (.call ⟨.builtin .min, a, b⟩) = true := by simp only [quiet]
theorem quiet_max {a b} : quiet (.call ⟨.builtin .max, a, b⟩) = true := by simp only [quiet]
theorem quiet_append {a b} : quiet (.call ⟨.builtin .append, a, b⟩) = false := by simp only [quiet]
theorem isSt_append {a b} : isSt (.call ⟨.builtin .append, a, b⟩) = false := by simp only [isSt]
theorem isCall_append {a b} : isCall (.call ⟨.builtin .append, a, b⟩) = false := by simp only [isCall]
theorem quiet_copy {a b} : quiet (.call ⟨.builtin .copy, a, b⟩) = false := by simp only [quiet]
theorem isSt_copy {a b} : isSt (.call ⟨.builtin .copy, a, b⟩) = false := by simp only [isSt]
theorem isCall_copy {a b} : isCall (.call ⟨.builtin .copy, a, b⟩) = false := by simp only [isCall]
theorem quiet_delete {a b} : quiet (.call ⟨.builtin .delete, a, b⟩) = false := by simp only [quiet]
theorem isSt_delete {a b} : isSt (.call ⟨.builtin .delete, a, b⟩) = false := by simp only [isSt]
theorem nqk_delete {a b} : nqk (.call ⟨.builtin .delete, a, b⟩) = true := by simp only [nqk, quiet, isCall, isSt, isAp, Bool.not_false, Bool.and_self]
theorem isCall_delete {a b} : isCall (.call ⟨.builtin .delete, a, b⟩) = false := by simp only [isCall]
end
/-- A call, with its arguments. -/
def CallK (P : Program) (f : D) (xs : List D) (K X : D → Store → Prop) (σ : Store) : Prop :=
 match f with
 | .fn fn fs cs => (isYield fn = true → cs = []) ∧ ((∃ d, PCall P fn (fs ++ xs ++ cs) d ∧ K d σ) ∨
       ACall P fn (fs ++ xs ++ cs) σ fun r σ' => match r with
         | .ret d => K d σ'
         | .pan d => X d σ')
 | _ => False
/-- A call that a guard may keep from being made; its result is plain data, whichever it is. -/
def GCallK (P : Program) (g : Option Bool) (ok : Bool) (f : D) (xs : List D) (K : D → Store → Prop) (σ : Store) : Prop :=
 ∃ b, g = some b ∧ ∃ d, (b = true → ok = true ∧ match f with
   | .fn fn fs cs => (isYield fn = true → cs = []) ∧ PCall P fn (fs ++ xs ++ cs) d
   | _ => False) ∧ K (.cnd b d) σ
variable {imm : List Nat} {gt : List (Nat × Nat)} {κ : Env → Store → Prop} {X : D → Store → Prop}
theorem vo_nil (env : Env) : vops P imm gt κ X [] env σ = κ env σ := rfl
theorem vK_eq (os : List Oper) (env : Env) (dst : Option Nat) (d : D) : vK P imm gt κ X os env dst d σ = vops P imm gt κ X os (env.put dst d) σ := rfl
theorem vo_q {dst : Option Nat} {op : Op} {T : TypeId} {pos : String} {aft : Array Edge} {os : List Oper} {env : Env} (h : quiet op = true) :
  vops P imm gt κ X (⟨dst, op, T, pos, aft, none⟩ :: os) env σ = ((qev P σ (opd env) op).1 ∧ vops P imm gt κ X os (env.put dst (qev P σ (opd env) op).2) σ) := by
 show vop P imm gt _ env σ _ X = _
 unfold vop
 simp only [h, cond_true, qv]
theorem vo_g {dst : Option Nat} {op : Op} {T : TypeId} {pos : String} {aft : Array Edge} {os : List Oper} {env : Env} {j : Nat} {want : Bool} (h : quiet op = true) :
  vops P imm gt κ X (⟨dst, op, T, pos, aft, some (j, want)⟩ :: os) env σ = (((gq gt env j want).isSome = true ∧ (gof (gq gt env j want) = true → (gev P σ env op).1)) ∧
    vops P imm gt κ X os (env.put dst (.cnd (gof (gq gt env j want)) (gev P σ env op).2)) σ) := by
 show vop P imm gt _ env σ _ X = _
 unfold vop
 simp only [h, cond_true, qv]
 unfold gq
 cases e : ((look gt j).bind fun t => gval (env t) want) with
 | none => simp [PD.no]
 | some g => simp [gof]
theorem vo_n {dst : Option Nat} {op : Op} {T : TypeId} {pos : String} {aft : Array Edge} {os : List Oper} {env : Env} (h : quiet op = false) (hc : isCall op = false) :
  vops P imm gt κ X (⟨dst, op, T, pos, aft, none⟩ :: os) env σ = nev P (isImm imm dst) σ (opd env) (vK P imm gt κ X os env dst) X op := by
 show vop P imm gt _ env σ _ X = _
 unfold vop
 simp only [h, cond_false, nv]
 rfl
theorem vo_c {dst : Option Nat} {f : Operand} {xs : Array Operand} {ts : Array TypeId} {T : TypeId} {pos : String} {aft : Array Edge} {os : List Oper} {env : Env} :
  vops P imm gt κ X (⟨dst, .call ⟨.value f, xs, ts⟩, T, pos, aft, none⟩ :: os) env σ = CallK P (opd env f) (xs.toList.map (opd env)) (vK P imm gt κ X os env dst) X σ := by
 show vop P imm gt _ env σ _ X = _
 unfold vop
 simp only [quiet, cond_false, nv]
 rfl
theorem vo_gc {dst : Option Nat} {f : Operand} {xs : Array Operand} {ts : Array TypeId} {T : TypeId} {pos : String} {aft : Array Edge} {os : List Oper} {env : Env} {j : Nat} {want : Bool}
  (h : GCallK P (gq gt env j want) (cgs env (.call ⟨.value f, xs, ts⟩)) (opc env f) (xs.toList.map (opc env)) (vK P imm gt κ X os env dst) σ) :
  vops P imm gt κ X (⟨dst, .call ⟨.value f, xs, ts⟩, T, pos, aft, some (j, want)⟩ :: os) env σ := by
 obtain ⟨b, hb, d, h1, h2⟩ := h
 show vop P imm gt _ env σ _ X
 unfold vop
 simp only [quiet, cond_false, nv]
 unfold gq at hb
 simp only [hb]
 refine .inl ⟨d, fun e => ?_, h2⟩
 obtain ⟨h3, h4⟩ := h1 e
 refine ⟨h3, ?_⟩
 simp only [PCallOp]
 revert h4
 cases opc env f <;> exact id
/-- A call of a plain function that only computes. -/
theorem callF {g : Nat} {xs : List D} {d : D} {K X : D → Store → Prop} (h : PCall P (.func g) xs d) (hk : K d σ) : CallK P (.fn (.func g) [] []) xs K X σ := by
 unfold CallK
 exact ⟨fun e => by simp [isYield] at e, .inl ⟨d, by simpa using h, hk⟩⟩
theorem callA {g : Nat} {xs : List D} {Q : Res → Store → Prop} {K X : D → Store → Prop} (h : ACall P (.func g) xs σ Q) (hk : ∀ d σ', Q (.ret d) σ' → K d σ') (hx : ∀ d σ', Q (.pan d) σ' → X d σ') : CallK P (.fn (.func g) [] []) xs K X σ := by
 unfold CallK
 refine ⟨fun e => by simp [isYield] at e, .inr ?_⟩
 have := h.mono (Q' := fun r σ' => match r with | .ret d => K d σ' | .pan d => X d σ') fun r σ' hq => by
  cases r with
  | ret d => exact hk d σ' hq
  | pan d => exact hx d σ' hq
 simpa using this
theorem gcallF {g : Nat} {b ok : Bool} {xs : List D} {d : D} {K : D → Store → Prop} (h : b = true → ok = true ∧ PCall P (.func g) xs d) (hk : K (.cnd b d) σ) : GCallK P (some b) ok (.fn (.func g) [] []) xs K σ :=
 ⟨b, rfl, d, fun e => ⟨(h e).1, fun e' => by simp [isYield] at e', by simpa using (h e).2⟩, hk⟩
end
end Go.Proofs.YtfjnohmdilmfhaaGreatDoor
/- Own layer, part 18: what the reading alone tells of plain data; whole numbers; ends of functions. -/
namespace Go.Proofs.YtfjnohmdilmfhaaGreatDoor
open Go Go.RowKit
set_option linter.unusedSimpArgs false
set_option linter.unusedVariables false
mutual
/-- What holds of plain data that some value reads as. -/
def D.ok : D → Prop
 | .int k n => inR k n
 | .str s => s.length ≤ lim
 | .sl _ rows _ => rows.length ≤ lim ∧ okRows rows
 | .fn _ fs cs => okAll fs ∧ okAll cs
 | .el cs => okAll cs
 | .ifc _ d => D.ok d
 | .ag cs => okAll cs
 | .tup ds => okAll ds
 | _ => True
def okAll : List D → Prop
 | [] => True
 | d :: ds => D.ok d ∧ okAll ds
def okRows : List (List D) → Prop
 | [] => True
 | r :: rs => okAll r ∧ okRows rs
end
mutual
theorem R.ok {M : Mem} : ∀ (d : D) (y : Value), R M d y → d.ok
 | .int _ _, _, h => by simp only [R] at h; simp only [D.ok]; exact h.2
 | .str _, _, h => by simp only [R] at h; simp only [D.ok]; exact h.2
 | .sl sz rows t, _, h => by
  simp only [R] at h
  obtain ⟨p, cap, h1, h2, h3, h4, h5⟩ := h
  simp only [D.ok]
  refine ⟨h3, ?_⟩
  cases rows with
  | nil => simp only [okRows]
  | cons r rs =>
   obtain ⟨b, o, _, h6⟩ := h4 (by simp)
   exact RRows.ok (r :: rs) b o h6
 | .fn f fs cs, _, h => by
  simp only [R] at h
  obtain ⟨vs, us, _, h1, h2⟩ := h
  simp only [D.ok]
  exact ⟨RAll.ok fs vs h1, RAll.ok cs us h2⟩
 | .el cs, _, h => by
  simp only [R] at h
  obtain ⟨b, o, _, h1⟩ := h
  simp only [D.ok]
  exact RCells.ok cs b o h1
 | .ifc t d, _, h => by
  simp only [R] at h
  obtain ⟨u, _, h1⟩ := h
  simp only [D.ok]
  exact R.ok d u h1
 | .ag cs, _, h => by
  simp only [R] at h
  obtain ⟨vs, _, h1⟩ := h
  simp only [D.ok]
  exact RAll.ok cs vs h1
 | .tup cs, _, h => by
  simp only [R] at h
  obtain ⟨vs, _, h1⟩ := h
  simp only [D.ok]
  exact RAll.ok cs vs h1
 | .bool _, _, _ => by simp only [D.ok]
 | .v _, _, _ => by simp only [D.ok]
 | .ptr _ _, _, _ => by simp only [D.ok]
 | .mp _, _, _ => by simp only [D.ok]
 | .cnd _ _, _, _ => by simp only [D.ok]
 | .arr _ _ _ _, _, _ => by simp only [D.ok]
 | .top, _, _ => by simp only [D.ok]
theorem RAll.ok {M : Mem} : ∀ (ds : List D) (ys : List Value), RAll M ds ys → okAll ds
 | [], _, _ => by simp only [okAll]
 | d :: ds, y :: ys, h => by simp only [RAll] at h; simp only [okAll]; exact ⟨R.ok d y h.1, RAll.ok ds ys h.2⟩
 | _ :: _, [], h => by simp [RAll] at h
theorem RCells.ok {M : Mem} : ∀ (ds : List D) (b o : Nat), RCells M ds b o → okAll ds
 | [], _, _, _ => by simp only [okAll]
 | d :: ds, b, o, h => by
  simp only [RCells] at h
  obtain ⟨⟨x, _, h2⟩, h3⟩ := h
  simp only [okAll]
  exact ⟨R.ok d x h2, RCells.ok ds b (o + 1) h3⟩
theorem RRows.ok {M : Mem} {sz : Nat} : ∀ (rs : List (List D)) (b o : Nat), RRows M sz rs b o → okRows rs
 | [], _, _, _ => by simp only [okRows]
 | r :: rs, b, o, h => by
  simp only [RRows] at h
  simp only [okRows]
  exact ⟨RCells.ok r b o h.2.1, RRows.ok rs b (o + sz) h.2.2⟩
end
theorem okRows_map {α : Type} (f : α → List D) : ∀ (l : List α), okRows (l.map f) ↔ ∀ x ∈ l, okAll (f x)
 | [] => by simp [okRows]
 | x :: l => by simp [okRows, okRows_map f l]
section
variable {P : Program} {σ : Store}
/-- A contract may use what its arguments' reading tells. -/
theorem ACall.ok {f : Fn} {args : List D} {Q : Res → Store → Prop} (h : okAll args → ACall P f args σ Q) : ACall P f args σ Q :=
 fun M w vs hc hr => h (RAll.ok args vs hr) M w vs hc hr
theorem PCall.ok {f : Fn} {args : List D} {d : D} (h : okAll args → PCall P f args d) : PCall P f args d := ACall.ok h
/-! ### Whole numbers -/
theorem inR_i64' (n : Int) : inR .i64 n ↔ -9223372036854775808 ≤ n ∧ n ≤ 9223372036854775807 := Iff.rfl
theorem inR_i32' (n : Int) : inR .i32 n ↔ -2147483648 ≤ n ∧ n ≤ 2147483647 := Iff.rfl
theorem inR_u8' (n : Int) : inR .u8 n ↔ 0 ≤ n ∧ n ≤ 255 := Iff.rfl
theorem inR_u16' (n : Int) : inR .u16 n ↔ 0 ≤ n ∧ n ≤ 65535 := Iff.rfl
theorem inR_u64' (n : Int) : inR .u64 n ↔ 0 ≤ n ∧ n ≤ 18446744073709551615 := Iff.rfl
theorem w64 {n : Int} (h : -9223372036854775808 ≤ n ∧ n ≤ 9223372036854775807) : IntKind.wrap .i64 n = n := by
 have h1 := h.1; have h2 := h.2
 show (if (true && decide (n % 18446744073709551616 ≥ 9223372036854775808)) = true then n % 18446744073709551616 - 18446744073709551616 else n % 18446744073709551616) = n
 rw [Bool.true_and]
 split
 ·rename_i hd; have hd := of_decide_eq_true hd; omega
 ·rename_i hd; have hd : ¬ (n % 18446744073709551616 ≥ 9223372036854775808) := fun e => hd (decide_eq_true e); omega
theorem wu8 {n : Int} (h : 0 ≤ n ∧ n ≤ 255) : IntKind.wrap .u8 n = n := by
 have h1 := h.1; have h2 := h.2
 show (if (false && decide (n % 256 ≥ 128)) = true then n % 256 - 256 else n % 256) = n
 rw [Bool.false_and, if_neg (by simp)]
 omega
/-! ### Ends -/
theorem ret_ {rs : List ResultVar} {Q : Res → Store → Prop} {env : Env} {σ' : Store} (h : (resD P σ env rs).1) (hs : σ'.Sublist σ) (hq : Q (.ret (resD P σ env rs).2) σ') : retQ P rs Q .ret env σ := ⟨h, σ', hs, hq⟩
end
end Go.Proofs.YtfjnohmdilmfhaaGreatDoor
/- Own layer, part 19: loops over functions; boxes that nobody writes to again. -/
namespace Go.Proofs.YtfjnohmdilmfhaaGreatDoor
open Go Go.RowKit
set_option linter.unusedSimpArgs false
set_option linter.unusedVariables false
section
variable {P : Program} {M : Mem} {w : World} {σ : Store} {r : Option Nat} {nt : Nat}
/-- Stores with the same boxes. -/
theorem Conc.perm {σ' : Store} (hp : σ.Perm σ') (hc : Conc M w σ) : Conc M w σ' :=
 ⟨hc.mem, ((hp.map Prod.fst).nodup_iff).1 hc.nodup, fun b x h => hc.box b x (hp.mem_iff.2 h), hc.glob.of (fun _ _ _ => rfl) (fun b hb => .inl (((hp.map Prod.fst).mem_iff).2 hb))⟩
theorem Step.perm {M' : Mem} {w' : World} {σ1 σ2 σ1' : Store} (hp : σ.Perm σ1) (hp' : σ1'.Perm σ2) (h : Step M w σ1 M' w' σ1') : Step M w σ M' w' σ2 := by
 have hk : ∀ b, b ∈ σ1.keys ↔ b ∈ σ.keys := fun b => ((hp.map Prod.fst).mem_iff).symm
 have hk' : ∀ b, b ∈ σ2.keys ↔ b ∈ σ1'.keys := fun b => ((hp'.map Prod.fst).mem_iff).symm
 exact ⟨h.le, h.os, h.tape, h.output, h.size, fun b hb hn => h.block b hb (fun e => hn ((hk b).1 e)), fun b hb => (h.keys b ((hk' b).1 hb)).imp (hk b).1 id,
   fun b o x hx => (h.grow b o x hx).imp id (fun h => h.imp id (hk b).1)⟩
/-- THE FRAME, before. -/
theorem ACall.frameL {f : Fn} {args : List D} {Q : Res → Store → Prop} (ρ : Store) (h : ACall P f args σ Q) :
  ACall P f args (ρ ++ σ) fun r σ' => ∃ σ1, σ' = ρ ++ σ1 ∧ Q r σ1 := by
 intro M w vs hc hr
 have hp : (ρ ++ σ).Perm (σ ++ ρ) := List.perm_append_comm
 refine (ACall.frame ρ h M w vs (hc.perm hp) hr).mono ?_
 rintro e w' ⟨M', σ', r, h1, h2, h3, σ1, rfl, h4⟩
 exact ⟨M', ρ ++ σ1, r, Step.perm hp List.perm_append_comm h1, h2.perm List.perm_append_comm, h3, σ1, rfl, h4⟩
/-- A block that nobody looks at. -/
theorem Conc.allocOther (hc : Conc M w σ) (o : Obj) : Conc M (w.alloc o) σ ∧ Step M w σ M (w.alloc o) σ :=
 ⟨⟨fun b i v h => by rw [cell?_alloc w o (hc.memLt h)]; exact hc.mem b i v h, hc.nodup, fun b y hy => (hc.box b y hy).mono (Mem.le.refl _) (fun _ _ h => h) (alloc_heap_old w o (hc.box b y hy).lt), hc.glob.of (fun b hb _ => alloc_heap_old w o hb) (fun b hb => .inl hb)⟩,
  { le := Mem.le.refl _, os := rfl, tape := rfl, output := rfl, size := by simp, block := fun b hb _ => alloc_heap_old w o hb, keys := fun b hb => .inl hb, grow := fun _ _ _ h => .inl h }⟩
/-! ### Boxes that nobody writes to again -/
def frz1 (b : Nat) (cs : List D) : D → D
 | .ptr b' o => if b' = b then .el (cs.drop o) else .ptr b' o
 | d => d
def frz (b : Nat) (cs : List D) : D → D
 | .ptr b' o => if b' = b then .el (cs.drop o) else .ptr b' o
 | .fn f fs us => .fn f fs (us.map (frz1 b cs))
 | d => d
/-- Some places of an environment, turned. -/
def frzE (ts : List Nat) (b : Nat) (cs : List D) (env : Env) : Env := fun i => bif ts.contains i then frz b cs (env i) else env i
def Store.del : Store → Nat → Store
 | [], _ => []
 | (b, x) :: σ, c => if c = b then σ else (b, x) :: Store.del σ c
theorem Store.del_sublist : ∀ (σ : Store) (c : Nat), (σ.del c).Sublist σ
 | [], _ => .slnil
 | (b, x) :: σ, c => by
  unfold Store.del
  split
  ·exact List.sublist_cons_self _ _
  ·exact (Store.del_sublist σ c).cons_cons _
theorem Store.del_mem : ∀ {σ : Store} {c : Nat}, σ.keys.Nodup → c ∉ (σ.del c).keys
 | [], _, _ => by simp [Store.del, Store.keys]
 | (b, x) :: σ, c, hn => by
  simp only [Store.keys, List.map_cons, List.nodup_cons] at hn
  unfold Store.del
  split
  ·rename_i e; subst e; exact hn.1
  ·rename_i e
   simp only [Store.keys, List.map_cons, List.mem_cons, not_or]
   exact ⟨e, Store.del_mem hn.2⟩
theorem R_frz1 {M' : Mem} {b : Nat} {cs : List D} (hle : Mem.le M M') (hb : RCells M' cs b 0) : ∀ {d : D} {v : Value}, R M d v → R M' (frz1 b cs d) v := by
 intro d v h
 have h' := h.mono hle
 unfold frz1
 split
 ·rename_i b' o
  split
  ·rename_i e
   subst e
   simp only [R] at h ⊢
   exact ⟨b', o, h, by have := hb.drop o; rwa [Nat.zero_add] at this⟩
  ·exact h'
 ·exact h'
theorem RAll_frz1 {M' : Mem} {b : Nat} {cs : List D} (hle : Mem.le M M') (hb : RCells M' cs b 0) : ∀ {ds : List D} {vs : List Value}, RAll M ds vs → RAll M' (ds.map (frz1 b cs)) vs
 | [], [], _ => by simp [RAll]
 | d :: ds, v :: vs, h => by simp only [RAll, List.map_cons] at h ⊢; exact ⟨R_frz1 hle hb h.1, RAll_frz1 hle hb h.2⟩
 | [], _ :: _, h => by simp [RAll] at h
 | _ :: _, [], h => by simp [RAll] at h
theorem R_frz {M' : Mem} {b : Nat} {cs : List D} (hle : Mem.le M M') (hb : RCells M' cs b 0) {d : D} {v : Value} (h : R M d v) : R M' (frz b cs d) v := by
 have h' := h.mono hle
 unfold frz
 split
 ·have := R_frz1 hle hb h
  unfold frz1 at this
  exact this
 ·simp only [R] at h ⊢
  obtain ⟨vs, us, e, h1, h2⟩ := h
  exact ⟨vs, us, e, h1.mono hle, RAll_frz1 hle hb h2⟩
 ·exact h'
/-- A box becomes memory that stays. -/
theorem fz (b : Nat) (ts : List Nat) (cs : List D) {c : Code} {env : Env} {Q : AE → Env → Store → Prop} (hg : σ.get b = some (.cells cs)) (h : AWp P r nt c (frzE ts b cs env) (σ.del b) Q) : AWp P r nt c env σ Q := by
 intro M w a B hc he hd
 obtain ⟨⟨vs, T, hh, hr, hcell⟩, hm⟩ := hc.box b _ (Store.mem_of_get hg)
 have hbk : b ∈ σ.keys := Store.get_mem hg
 let M' : Mem := fun b' o => if b' = b then vs[o]? else M b' o
 have hle : Mem.le M M' := fun b' o x hx => by
  show (if b' = b then _ else _) = _
  rw [if_neg (fun e => by subst e; rw [hm] at hx; cases hx)]
  exact hx
 have hM' : ∀ i v, vs[i]? = some v → M' b (0 + i) = some v := fun i v hv => by
  show (if b = b then _ else _) = _
  rw [if_pos rfl, Nat.zero_add]; exact hv
 have hcells : RCells M' cs b 0 := RCells_of M' b 0 (hr.mono hle) hM'
 have hdel := Store.del_sublist σ b
 have hnot := Store.del_mem (c := b) hc.nodup
 have hc' : Conc M' w (σ.del b) := by
  refine ⟨fun b' o x hx => ?_, hc.nodup.sublist (hdel.map Prod.fst), fun b' y hy => ?_, hc.glob.of (fun _ _ _ => rfl) (fun b' hb' => .inl ((hdel.map Prod.fst).subset hb'))⟩
  ·have hx' : (if b' = b then vs[o]? else M b' o) = some x := hx
   split at hx'
   ·rename_i e; subst e
    simp only [World.cell?, hh]
    simpa using hx'
   ·exact hc.mem b' o x hx'
  ·refine (hc.box b' y (hdel.subset hy)).mono hle (fun o v hv => ?_) rfl
   have hne : b' ≠ b := fun e => hnot (e ▸ List.mem_map_of_mem (f := Prod.fst) hy)
   have hv' : (if b' = b then vs[o]? else M b' o) = some v := hv
   rwa [if_neg hne] at hv'
 have hs : Step M w σ M' w (σ.del b) :=
  ⟨hle, rfl, rfl, rfl, Nat.le_refl _, fun _ _ _ => rfl, fun b' hb' => .inl ((hdel.map Prod.fst).subset hb'), fun b' o x hx => by
    have hx' : (if b' = b then vs[o]? else M b' o) = some x := hx
    split at hx'
    · rename_i e; exact .inr (.inr (e ▸ hbk))
    · exact .inl hx'⟩
 have he' : EnvR M' nt (frzE ts b cs env) a := ⟨he.1, fun i => by
   unfold frzE
   cases ts.contains i with
   | true => exact R_frz hle hcells (he.2 i)
   | false => exact (he.2 i).mono hle⟩
 exact wpIn_mono (h M' w a B hc' he' (hd.step hs)) (rgPost.trans hs)
/-! ### Loops over functions -/
/-- The places of the loop's variables. -/
def setPs : List Nat → List D → Env → Env
 | p :: ps, d :: ds, env => setPs ps ds (env.set p d)
 | _, _, env => env
end
end Go.Proofs.YtfjnohmdilmfhaaGreatDoor
/- Own layer, part 20: results told with less; slices that grow. -/
namespace Go.Proofs.YtfjnohmdilmfhaaGreatDoor
open Go Go.RowKit
set_option linter.unusedSimpArgs false
set_option linter.unusedVariables false
/-- What one piece of data tells less than another. -/
def DLe (d d' : D) : Prop := ∀ M v, R M d' v → R M d v
theorem DLe.refl (d : D) : DLe d d := fun _ _ h => h
theorem DLe.of_eq {d d' : D} (h : d' = d) : DLe d d' := by subst h; exact DLe.refl _
theorem DLe.tok (sz : Nat) (rows : List (List D)) (t : Tok) : DLe (.sl sz rows .no) (.sl sz rows t) := by
 intro M v h
 simp only [R] at h ⊢
 obtain ⟨p, cap, h1, h2, h3, h4, _⟩ := h
 exact ⟨p, cap, h1, h2, h3, h4, trivial⟩
theorem DLe.nil (sz sz' : Nat) (t : Tok) : DLe (.sl sz [] .no) (.sl sz' [] t) := by
 intro M v h
 simp only [R] at h ⊢
 obtain ⟨p, cap, h1, h2, h3, h4, _⟩ := h
 exact ⟨p, cap, h1, h2, h3, fun h => absurd rfl h, trivial⟩
def DsLe : List D → List D → Prop
 | [], [] => True
 | d :: ds, e :: es => DLe d e ∧ DsLe ds es
 | _, _ => False
theorem DsLe.R {M : Mem} : ∀ {ds es : List D} {vs : List Value}, DsLe ds es → RAll M es vs → RAll M ds vs
 | [], [], _, _, h => h
 | d :: ds, e :: es, [], _, h => by simp [RAll] at h
 | d :: ds, e :: es, v :: vs, hl, h => by simp only [RAll] at h ⊢; exact ⟨hl.1 M v h.1, DsLe.R hl.2 h.2⟩
 | [], _ :: _, _, hl, _ => hl.elim
 | _ :: _, [], _, hl, _ => hl.elim
theorem DLe.tup {ds es : List D} (h : DsLe ds es) : DLe (.tup ds) (.tup es) := by
 intro M v hv
 simp only [Go.Proofs.YtfjnohmdilmfhaaGreatDoor.R] at hv ⊢
 obtain ⟨vs, e, hv⟩ := hv
 exact ⟨vs, e, h.R hv⟩
theorem DLe.ag {ds es : List D} (h : DsLe ds es) : DLe (.ag ds) (.ag es) := by
 intro M v hv
 simp only [Go.Proofs.YtfjnohmdilmfhaaGreatDoor.R] at hv ⊢
 obtain ⟨vs, e, hv⟩ := hv
 exact ⟨vs, e, h.R hv⟩
theorem EnvLe.refl (E : Env) : EnvLe E E := fun _ _ _ h => h
theorem EnvLe.cons {i : Nat} {d d' : D} {l l' : List (Nat × D)} (h : DLe d d') (hl : EnvLe (mk l) (mk l')) : EnvLe (mk ((i, d) :: l)) (mk ((i, d') :: l')) := by
 intro M j v hv
 simp only [mk] at hv ⊢
 split
 ·rename_i e; rw [if_pos e] at hv; exact h M v hv
 ·rename_i e; rw [if_neg e] at hv; exact hl M j v hv
theorem EnvLe.of_eq {E env : Env} (h : E = env) : EnvLe E env := by subst h; exact EnvLe.refl _
/-- What an environment holds at some places. -/
def EnvL (env : Env) : List (Nat × D) → Prop
 | [] => True
 | (i, d) :: l => env i = d ∧ EnvL env l
theorem EnvLe.of_l {l : List (Nat × D)} {env : Env} (h : EnvL env l) : EnvLe (mk l) env := by
 intro M i v hv
 have key : ∀ l, EnvL env l → Go.Proofs.YtfjnohmdilmfhaaGreatDoor.R M (mk l i) v := by
  intro l
  induction l with
  | nil => intro _; simp only [mk, Go.Proofs.YtfjnohmdilmfhaaGreatDoor.R]
  | cons x l ih =>
   intro hl
   simp only [mk]
   split
   ·rename_i e; subst e; rw [← hl.1]; exact hv
   ·exact ih hl.2
 exact key l h
def ResLe : Res → Res → Prop
 | .ret d, .ret d' => DLe d d'
 | .pan d, .pan d' => DLe d d'
 | _, _ => False
theorem ResLe.R {M : Mem} {r r' : Res} {e : Ending} (h : ResLe r r') (hr : ResR M r' e) : ResR M r e := by
 cases r with
 | ret d =>
  cases r' with
  | ret d' =>
   cases e with
   | returned v => exact h M v hr
   | panicked c => simp [ResR] at hr
   | outgrown => simp [ResR] at hr
  | pan d' => exact h.elim
 | pan d =>
  cases r' with
  | ret d' => exact h.elim
  | pan d' =>
   cases e with
   | returned v => simp [ResR] at hr
   | outgrown => simp [ResR] at hr
   | panicked c =>
    cases c with
    | nil => simp [ResR] at hr
    | cons a as =>
     cases as with
     | cons _ _ => simp [ResR] at hr
     | nil =>
      obtain ⟨v, h1, h2⟩ := hr
      exact ⟨v, h1, h M v h2⟩
section
variable {P : Program} {σ : Store} {r : Option Nat} {nt : Nat}
theorem ACall.le {f : Fn} {args : List D} {Q : Res → Store → Prop} (h : ACall P f args σ fun r σ' => ∃ r', ResLe r' r ∧ Q r' σ') : ACall P f args σ Q :=
 fun M w vs hc hr => (h M w vs hc hr).mono fun _ _ ⟨M', σ', _, h1, h2, h3, r', h4, h5⟩ => ⟨M', σ', r', h1, h2, h4.R h3, h5⟩
theorem PCall.le {f : Fn} {args : List D} {d : D} (h : ACall P f args [] fun r σ' => ∃ d', r = .ret d' ∧ DLe d d' ∧ σ' = []) : PCall P f args d :=
 ACall.le (h.mono fun r σ' ⟨d', h1, h2, h3⟩ => ⟨.ret d, by subst h1; exact h2, rfl, h3⟩)
theorem retL {rs : List ResultVar} {d : D} {env : Env} (h : (resD P σ env rs).1 ∧ DLe d (resD P σ env rs).2) : retQ P rs (fun r σ' => ∃ d', r = .ret d' ∧ DLe d d' ∧ σ' = []) .ret env σ := ⟨h.1, [], by simp, _, rfl, h.2, rfl⟩
theorem retE {rs : List ResultVar} {d : D} {env : Env} (h : (resD P σ env rs).1 ∧ (resD P σ env rs).2 = d) : retQ P rs (fun r σ' => ∃ d', r = .ret d' ∧ DLe d d' ∧ σ' = []) .ret env σ := retL ⟨h.1, DLe.of_eq h.2⟩
/-- A condition that is known. -/
theorem cdt {c : Operand} {x y : Code} {env : Env} {Q : AE → Env → Store → Prop} (hb : opd env c = .bool true) (h : AWp P r nt x env σ Q) : AWp P r nt (.cond c x y) env σ Q :=
 cd hb (fun _ => h) (fun e => by cases e)
theorem cdf {c : Operand} {x y : Code} {env : Env} {Q : AE → Env → Store → Prop} (hb : opd env c = .bool false) (h : AWp P r nt y env σ Q) : AWp P r nt (.cond c x y) env σ Q :=
 cd hb (fun e => by cases e) (fun _ => h)
/-! ### Freezing at a region's end -/
theorem frzE_cons (ts : List Nat) (b : Nat) (cs : List D) (i : Nat) (d : D) (l : List (Nat × D)) : frzE ts b cs (mk ((i, d) :: l)) = fun j => if j = i then (bif ts.contains i then frz b cs d else d) else frzE ts b cs (mk l) j := by
 funext j
 simp only [frzE, mk]
 split
 ·rename_i e; subst e; rfl
 ·rfl
def inL : List Nat → Nat → Prop
 | [], _ => False
 | t :: ts, i => i = t ∨ inL ts i
instance inL_dec : ∀ (ts : List Nat) (i : Nat), Decidable (inL ts i)
 | [], _ => isFalse (fun h => h)
 | t :: ts, i => match decEq i t, inL_dec ts i with
  | isTrue h, _ => isTrue (.inl h)
  | isFalse _, isTrue h => isTrue (.inr h)
  | isFalse h, isFalse h' => isFalse (fun e => e.elim h h')
theorem inL_contains : ∀ (ts : List Nat) (i : Nat), inL ts i ↔ ts.contains i = true
 | [], i => by simp [inL]
 | t :: ts, i => by simp only [inL, List.contains_cons, Bool.or_eq_true, beq_iff_eq, inL_contains ts i]
/-- An environment's entries, turned. -/
def frzL (ts : List Nat) (b : Nat) (cs : List D) : List (Nat × D) → List (Nat × D)
 | [] => []
 | (i, d) :: l => (i, if inL ts i then frz b cs d else d) :: frzL ts b cs l
theorem frzE_mk (ts : List Nat) (b : Nat) (cs : List D) : ∀ l : List (Nat × D), frzE ts b cs (mk l) = mk (frzL ts b cs l)
 | [] => by funext j; simp only [frzE, mk, frzL, frz]; cases ts.contains j <;> rfl
 | (i, d) :: l => by
  rw [frzE_cons, frzE_mk ts b cs l]
  funext j
  simp only [frzL, mk]
  by_cases e : j = i
  ·rw [if_pos e, if_pos e]
   by_cases h : inL ts i
   ·rw [if_pos h, (inL_contains ts i).1 h]; rfl
   ·rw [if_neg h]
    cases hc : ts.contains i with
    | true => exact absurd ((inL_contains ts i).2 hc) h
    | false => rfl
  ·rw [if_neg e, if_neg e]
/-- Boxes that stay as they are from here on. -/
def FZ (K : Env → Store → Prop) : List (Nat × List Nat) → Env → Store → Prop
 | [], env, σ => K env σ
 | (t, ts) :: l, env, σ => match env t with
  | .ptr b 0 => match σ.get b with
   | some (.cells cs) => FZ K l (frzE (t :: ts) b cs env) (σ.del b)
   | _ => False
  | _ => False
theorem frz_conc {M : Mem} {w : World} {a : Act} {env : Env} {b : Nat} {cs : List D} (ts : List Nat) (hc : Conc M w σ) (he : EnvR M nt env a) (hg : σ.get b = some (.cells cs)) :
  ∃ M', Conc M' w (σ.del b) ∧ Step M w σ M' w (σ.del b) ∧ EnvR M' nt (frzE ts b cs env) a := by
 obtain ⟨⟨vs, T, hh, hr, hcell⟩, hm⟩ := hc.box b _ (Store.mem_of_get hg)
 have hbk : b ∈ σ.keys := Store.get_mem hg
 let M' : Mem := fun b' o => if b' = b then vs[o]? else M b' o
 have hle : Mem.le M M' := fun b' o x hx => by
  show (if b' = b then _ else _) = _
  rw [if_neg (fun e => by subst e; rw [hm] at hx; cases hx)]
  exact hx
 have hM' : ∀ i v, vs[i]? = some v → M' b (0 + i) = some v := fun i v hv => by
  show (if b = b then _ else _) = _
  rw [if_pos rfl, Nat.zero_add]; exact hv
 have hcells : RCells M' cs b 0 := RCells_of M' b 0 (hr.mono hle) hM'
 have hdel := Store.del_sublist σ b
 have hnot := Store.del_mem (c := b) hc.nodup
 refine ⟨M', ⟨fun b' o x hx => ?_, hc.nodup.sublist (hdel.map Prod.fst), fun b' y hy => ?_, hc.glob.of (fun _ _ _ => rfl) (fun b' hb' => .inl ((hdel.map Prod.fst).subset hb'))⟩, ⟨hle, rfl, rfl, rfl, Nat.le_refl _, fun _ _ _ => rfl, fun b' hb' => .inl ((hdel.map Prod.fst).subset hb'), fun b' o x hx => ?_⟩, he.1, fun i => ?_⟩
 ·have hx' : (if b' = b then vs[o]? else M b' o) = some x := hx
  split at hx'
  ·rename_i e; subst e
   simp only [World.cell?, hh]
   simpa using hx'
  ·exact hc.mem b' o x hx'
 ·refine (hc.box b' y (hdel.subset hy)).mono hle (fun o v hv => ?_) rfl
  have hne : b' ≠ b := fun e => hnot (e ▸ List.mem_map_of_mem (f := Prod.fst) hy)
  have hv' : (if b' = b then vs[o]? else M b' o) = some v := hv
  rwa [if_neg hne] at hv'
 ·have hx' : (if b' = b then vs[o]? else M b' o) = some x := hx
  split at hx'
  ·rename_i e; exact .inr (.inr (e ▸ hbk))
  ·exact .inl hx'
 ·unfold frzE
  cases ts.contains i with
  | true => exact R_frz hle hcells (he.2 i)
  | false => exact (he.2 i).mono hle
theorem FZ_sound {K : Env → Store → Prop} {a : Act} {w : World} : ∀ (l : List (Nat × List Nat)) {M : Mem} {σ : Store} {env : Env}, Conc M w σ → EnvR M nt env a → FZ K l env σ →
  ∃ M' env' σ', Conc M' w σ' ∧ Step M w σ M' w σ' ∧ EnvR M' nt env' a ∧ K env' σ'
 | [], M, σ, env, hc, he, h => ⟨M, env, σ, hc, Step.refl _ _ _, he, h⟩
 | (t, ts) :: l, M, σ, env, hc, he, h => by
  unfold FZ at h
  split at h
  ·split at h
   ·rename_i cs hg
    obtain ⟨M1, c1, s1, e1⟩ := frz_conc (t :: ts) hc he hg
    obtain ⟨M2, env2, σ2, c2, s2, e2, k2⟩ := FZ_sound l c1 e1 h
    exact ⟨M2, env2, σ2, c2, s1.trans s2, e2, k2⟩
   ·exact h.elim
  ·exact h.elim
theorem AWp.fz (l : List (Nat × List Nat)) {c : Code} {env : Env} {Q : AE → Env → Store → Prop} (h : AWp P r nt c env σ (thenQ (fun env σ => FZ (fun env σ => Q .normal env σ) l env σ) Q)) : AWp P r nt c env σ Q := by
 intro M w a B hc he hd
 refine wpIn_mono (h M w a B hc he hd) ?_
 rintro e a' w' ⟨M2, env2, σ2, ae, h1, h2, h3, h4, h5, h6⟩
 cases ae with
 | normal =>
  obtain ⟨M3, env3, σ3, c3, s3, e3, k3⟩ := FZ_sound l h2 h3 h6
  refine ⟨M3, env3, σ3, .normal, h1.trans s3, c3, e3, h4.step s3, ?_, k3⟩
  cases e <;> simp only [AER] at h5 ⊢
 | exit i => exact ⟨M2, env2, σ2, .exit i, h1, h2, h3, h4, h5, h6⟩
 | goto i => exact ⟨M2, env2, σ2, .goto i, h1, h2, h3, h4, h5, h6⟩
 | ret => exact ⟨M2, env2, σ2, .ret, h1, h2, h3, h4, h5, h6⟩
 | pan d => exact ⟨M2, env2, σ2, .pan d, h1, h2, h3, h4, h5, h6⟩
/-- A region at whose end boxes are frozen. -/
theorem rgz (fzl : List (Nat × List Nat)) (keep imm : List Nat) (gt : List (Nat × Nat)) {id : Nat} {l : List Oper} {env : Env} {Q : AE → Env → Store → Prop} (hok : rgOK nt l.toArray gt = true)
  (h : ∀ (κ : Env → Store → Prop) (ξ : D → Store → Prop), (∀ env σ, Q .normal env σ → κ env σ) → (∀ d σ, Q (.pan d) (fun _ => .top) σ → ξ d σ) → vops P imm gt (fun env σ => FZ κ fzl (prune keep env) σ) ξ l env σ) : AWp P r nt (.region id l.toArray false) env σ Q := by
 refine AWp.fz fzl ?_
 intro M w a B hc he hd
 refine wpIn_region ?_
 simp only [rgOK, Bool.and_eq_true] at hok
 have := vops_sound (P := P) (r := r) (imm := imm) (ops := l.toArray) (Q := thenQ (fun env σ => FZ (fun env σ => Q .normal env σ) fzl env σ) Q) (GT.of hok.2) keep l 0 (by simp) (by simpa using hok.1) env σ M w a
  (h (fun env σ => Q .normal env σ) (fun d σ => Q (.pan d) (fun _ => .top) σ) (fun _ _ h => h) (fun _ _ h => h)) hc he hd rfl (Step.refl _ _ _)
 rw [List.range_eq_range', show l.toArray.size = l.length from by simp]
 exact this
theorem nk_cons (b c : Nat) (x : Box) (σ : Store) : (b ∈ Store.keys ((c, x) :: σ)) = (c = b ∨ b ∈ Store.keys σ) := by
 simp only [Store.keys, List.map_cons, List.mem_cons, eq_comm]
def plsF (sz : Nat) : Nat → Nat → List (Nat × Nat)
 | 0, _ => []
 | n + 1, off => (off, sz) :: plsF sz n (off + sz)
theorem pls_eq (sz len : Nat) : pls sz len = plsF sz len 0 := by
 have key : ∀ n k, (List.range' k n).map (fun i => (i * sz, sz)) = plsF sz n (k * sz) := by
  intro n
  induction n with
  | zero => intro k; rfl
  | succ n ih =>
   intro k
   simp only [List.range'_succ, List.map_cons, plsF]
   rw [ih (k + 1), Nat.add_mul, Nat.one_mul]
 have := key len 0
 rw [Nat.zero_mul] at this
 unfold pls
 rw [List.range_eq_range']
 exact this
/-! ### Slices that grow -/
def apD (sz : Nat) (rows : List (List D)) : Option (Nat × Nat) → D
 | none => .sl 0 [] .nil
 | some (b, c) => .sl sz rows (.own b c)
def apS (sz n : Nat) : Option (Nat × Nat) → Store
 | none => []
 | some (b, c) => [(b, .tail sz n c)]
/-- Nothing has been put into what is nil. -/
def apOK (rows : List (List D)) (o : Option (Nat × Nat)) : Prop := o = none → rows = []
/-- It is none of the other boxes. -/
def apFr (o : Option (Nat × Nat)) (ρ : Store) : Prop := ∀ b c, o = some (b, c) → b ∉ ρ.keys
theorem apFr_nil (o : Option (Nat × Nat)) : apFr o [] := fun _ _ _ => by simp [Store.keys]
theorem apD_le (sz : Nat) {rows : List (List D)} {o : Option (Nat × Nat)} (h : apOK rows o) : DLe (.sl sz rows .no) (apD sz rows o) := by
 cases o with
 | none => rw [h rfl]; exact DLe.nil _ _ _
 | some x => exact DLe.tok _ _ _
theorem napp_grow {ts : Array TypeId} {T U V : TypeId} {g : Bool} {sz by_ : Nat} {z : List D} {rows new : List (List D)} {o : Option (Nat × Nat)} {ρ : Store} {tk : Tok} {K : D → Store → Prop}
  (hok : apOK rows o) (hfr : apFr o ρ) (hT : ts[0]? = some T) (hV : ts[1]? = some V) (hV' : (sle P V).isSome = true) (hs : sle P T = some (U, g, sz)) (hy : eby P T = some by_) (hz : zc P U = some z)
  (hside : (z.length = sz ∧ 0 < sz ∧ 0 < by_) ∧ new.all (·.all D.isCell) = true ∧ new ≠ [] ∧ (rows.length + new.length) * by_ ≤ capB)
  (hK : ∀ b c, b ∉ ρ.keys → K (apD sz (rows ++ new) (some (b, c))) (apS sz (rows.length + new.length) (some (b, c)) ++ ρ)) :
  napp P (apS sz rows.length o ++ ρ) ts (apD sz rows o) (.sl sz new tk) K := by
 obtain ⟨⟨h1, h2, h3⟩, h4, h5, h6⟩ := hside
 unfold napp
 cases o with
 | none =>
  have hr := hok rfl
  subst hr
  simp only [hT, hV, hs, hy, hz, apD, apS, rowsOf, Option.bind_some, List.nil_append]
  refine ⟨⟨⟨z, rfl, h1⟩, ⟨V, rfl, .inl hV'⟩, h2, h3, .inl trivial, .inr trivial, h4, h6⟩, fun e => absurd e h5, fun _ b c hb => ?_⟩
  have := hK b c hb
  simpa [apD, apS] using this
 | some x =>
  obtain ⟨b, c⟩ := x
  simp only [hT, hV, hs, hy, hz, apD, apS, rowsOf, Option.bind_some, List.cons_append, List.nil_append]
  refine ⟨⟨⟨z, rfl, h1⟩, ⟨V, rfl, .inl hV'⟩, h2, h3, .inr trivial, .inr trivial, h4, h6⟩, ⟨trivial, by simp [Store.get]⟩, fun b' c' hb' => ?_⟩
  have hren : Store.ren ((b, Box.tail sz rows.length c) :: ρ) b b' (.tail sz (rows.length + new.length) c') = (b', .tail sz (rows.length + new.length) c') :: ρ := by simp [Store.ren]
  rw [hren]
  have hb2 : b' ∉ ρ.keys := by
   rcases hb' with rfl | hb'
   ·exact hfr b' c rfl
   ·simp only [Store.keys, List.map_cons, List.mem_cons, not_or] at hb'
    exact hb'.2
  have := hK b' c' hb2
  simpa [apD, apS] using this
theorem napp_grow0 {ts : Array TypeId} {T U V : TypeId} {g : Bool} {sz by_ : Nat} {z : List D} {rows new : List (List D)} {o : Option (Nat × Nat)} {tk : Tok} {n : Nat} {K : D → Store → Prop}
  (hok : apOK rows o) (hn : rows.length = n) (hT : ts[0]? = some T) (hV : ts[1]? = some V) (hV' : (sle P V).isSome = true) (hs : sle P T = some (U, g, sz)) (hy : eby P T = some by_) (hz : zc P U = some z)
  (hside : (z.length = sz ∧ 0 < sz ∧ 0 < by_) ∧ new.all (·.all D.isCell) = true ∧ new ≠ [] ∧ (n + new.length) * by_ ≤ capB)
  (hK : ∀ b c, K (apD sz (rows ++ new) (some (b, c))) (apS sz (n + new.length) (some (b, c)))) :
  napp P (apS sz n o) ts (apD sz rows o) (.sl sz new tk) K   := by
 subst hn
 have := napp_grow (P := P) (K := K) (tk := tk) (ρ := []) hok (apFr_nil o) hT hV hV' hs hy hz hside (fun b c _ => by simpa using hK b c)
 simpa using this
/-! ### How a region in whatever order is evaluated -/
section
variable {imm soft : List Nat} {gt : List (Nat × Nat)} {κ : Env → Store → Prop} {X : D → Store → Prop}
def dK (P : Program) (imm soft : List Nat) (gt : List (Nat × Nat)) (κ : Env → Store → Prop) (X : D → Store → Prop) (os : List Oper) (env : Env) (dst : Option Nat) : D → Store → Prop :=
 fun d σ' => vdr P imm soft gt κ X os (env.put dst d) σ'
def eK (P : Program) (imm soft : List Nat) (gt : List (Nat × Nat)) (κ : Env → Store → Prop) (X : D → Store → Prop) (os : List Oper) (env : Env) (dst : Option Nat) (σ : Store) : D → Store → Prop :=
 fun d σ' => Ext σ σ' ∧ vdr P imm soft gt κ X os (env.put dst d) σ'
/-- A call that only computes. -/
def PCallD (P : Program) (f : D) (xs : List D) (d : D) : Prop :=
 match f with
 | .fn fn fs cs => (isYield fn = true → cs = []) ∧ PCall P fn (fs ++ xs ++ cs) d
 | _ => False
def SCallK (P : Program) (f : D) (xs : List D) (K : D → Store → Prop) (σ : Store) : Prop := ∃ d, PCallD P f xs d ∧ K d σ
theorem Ext_refl (σ : Store) : Ext σ σ = True := eq_true (Ext.refl σ)
theorem Ext_cons {b : Nat} {x : Box} (h : b ∉ Store.keys σ) : Ext σ ((b, x) :: σ) := by
 intro c y hy
 refine .inr ?_
 unfold Store.get
 rw [if_neg (fun e : c = b => h (by rw [← e]; exact Store.get_mem hy))]
 exact hy
theorem vd_nil (env : Env) : vdr P imm soft gt κ X [] env σ = κ env σ := rfl
theorem dK_eq (os : List Oper) (env : Env) (dst : Option Nat) (d : D) : dK P imm soft gt κ X os env dst d σ = vdr P imm soft gt κ X os (env.put dst d) σ := rfl
theorem eK_eq (os : List Oper) (env : Env) (dst : Option Nat) (d : D) (σ' : Store) : eK P imm soft gt κ X os env dst σ d σ' = (Ext σ σ' ∧ vdr P imm soft gt κ X os (env.put dst d) σ') := rfl
theorem softC_quiet {dst : Option Nat} {op : Op} {T : TypeId} {pos : String} {aft : Array Edge} {g : Option (Nat × Bool)} (h : quiet op = true) : softC soft ⟨dst, op, T, pos, aft, g⟩ = false := by
 unfold softC
 split
 ·rename_i h1 h2; simp only at h1; rw [h1] at h; simp [quiet] at h
 ·rfl
theorem vd_q {dst : Option Nat} {op : Op} {T : TypeId} {pos : String} {aft : Array Edge} {os : List Oper} {env : Env} (h : quiet op = true) :
  vdr P imm soft gt κ X (⟨dst, op, T, pos, aft, none⟩ :: os) env σ = ((qev P σ (opd env) op).1 ∧ vdr P imm soft gt κ X os (env.put dst (qev P σ (opd env) op).2) σ) := by
 simp only [vdr, softC_quiet h, cond_false]
 unfold vop
 simp only [h, cond_true, qv, Ext_refl, or_true, true_and]
theorem vd_g {dst : Option Nat} {op : Op} {T : TypeId} {pos : String} {aft : Array Edge} {os : List Oper} {env : Env} {j : Nat} {want : Bool} (h : quiet op = true) :
  vdr P imm soft gt κ X (⟨dst, op, T, pos, aft, some (j, want)⟩ :: os) env σ = (((gq gt env j want).isSome = true ∧ (gof (gq gt env j want) = true → (gev P σ env op).1)) ∧
    vdr P imm soft gt κ X os (env.put dst (.cnd (gof (gq gt env j want)) (gev P σ env op).2)) σ) := by
 simp only [vdr, softC_quiet h, cond_false]
 unfold vop
 simp only [h, cond_true, qv, Ext_refl, or_true, true_and]
 unfold gq
 cases e : ((look gt j).bind fun t => gval (env t) want) with
 | none => simp [PD.no]
 | some g => simp [gof]
theorem vd_c {t : Nat} {f : Operand} {xs : Array Operand} {ts : Array TypeId} {T : TypeId} {pos : String} {aft : Array Edge} {os : List Oper} {env : Env} :
  vdr P imm soft gt κ X (⟨some t, .call ⟨.value f, xs, ts⟩, T, pos, aft, none⟩ :: os) env σ =
   bif soft.contains t then SCallK P (opd env f) (xs.toList.map (opd env)) (dK P imm soft gt κ X os env (some t)) σ else CallK P (opd env f) (xs.toList.map (opd env)) (bif wcs soft t then dK P imm soft gt κ X os env (some t) else eK P imm soft gt κ X os env (some t) σ) X σ := by
 simp only [vdr, softC]
 cases soft.contains t with
 | true =>
  simp only [cond_true, pv, PCallOp, SCallK, PCallD]
  cases opd env f <;> rfl
 | false =>
  simp only [cond_false]
  unfold vop
  simp only [quiet, cond_false, nv, isW, isSt, isAp, wCall, Bool.false_and, Bool.or_self, Bool.false_or]
  cases wcs soft t with
  | true => simp only [true_or, true_and, cond_true]; rfl
  | false => simp only [Bool.false_eq_true, false_or, cond_false]; rfl
theorem wCall_n {dst : Option Nat} {op : Op} {T : TypeId} {pos : String} {aft : Array Edge} {g : Option (Nat × Bool)} (h : isCall op = false) : wCall soft ⟨dst, op, T, pos, aft, g⟩ = false := by
 unfold wCall
 split
 ·rename_i h1 h2; simp only at h1; rw [h1] at h; simp [isCall] at h
 ·rfl
theorem vd_n {dst : Option Nat} {op : Op} {T : TypeId} {pos : String} {aft : Array Edge} {os : List Oper} {env : Env} (hn : nqk op = true) :
  vdr P imm soft gt κ X (⟨dst, op, T, pos, aft, none⟩ :: os) env σ = nev P (isImm imm dst) σ (opd env) (eK P imm soft gt κ X os env dst σ) X op := by
 obtain ⟨h, hc, hst, hap⟩ := nqk_spec hn
 have hs : softC soft ⟨dst, op, T, pos, aft, none⟩ = false := by
  unfold softC
  split
  ·rename_i h1 h2; simp only at h1; rw [h1] at hc; simp [isCall] at hc
  ·rfl
 simp only [vdr, hs, cond_false]
 unfold vop
 simp only [h, cond_false, nv, isW, hst, hap, wCall_n hc, Bool.false_and, Bool.or_self, Bool.false_eq_true, false_or]
 rfl
/-- append: what it writes is not looked at afterwards, or nothing that is looked at turns. -/
theorem vd_ap {t : Nat} {xs : Array Operand} {ts : Array TypeId} {T : TypeId} {pos : String} {aft : Array Edge} {os : List Oper} {env : Env} :
  vdr P imm soft gt κ X (⟨some t, .call ⟨.builtin .append, xs, ts⟩, T, pos, aft, none⟩ :: os) env σ = nev P (isImm imm (some t)) σ (opd env) (bif soft.contains t then dK P imm soft gt κ X os env (some t) else eK P imm soft gt κ X os env (some t) σ) X (.call ⟨.builtin .append, xs, ts⟩) := by
 simp only [vdr, softC, cond_false]
 unfold vop
 simp only [quiet, cond_false, nv, isW, isSt, isAp, wCall, Bool.or_false, Bool.true_and, Bool.false_or]
 cases soft.contains t with
 | true => simp only [true_or, true_and, cond_true]; rfl
 | false => simp only [Bool.false_eq_true, false_or, cond_false]; rfl
theorem vd_cp {xs : Array Operand} {ts : Array TypeId} {T : TypeId} {pos : String} {aft : Array Edge} {os : List Oper} {env : Env} :
  vdr P imm soft gt κ X (⟨none, .call ⟨.builtin .copy, xs, ts⟩, T, pos, aft, none⟩ :: os) env σ = nev P (isImm imm none) σ (opd env) (dK P imm soft gt κ X os env none) X (.call ⟨.builtin .copy, xs, ts⟩) := by
 simp only [vdr, softC, cond_false]
 unfold vop
 simp only [quiet, cond_false, nv, isW, isSt, isAp, wCall, Bool.or_false, Bool.true_and, Bool.false_or, true_or, true_and]
 rfl
theorem vd_cps {t : Nat} {xs : Array Operand} {ts : Array TypeId} {T : TypeId} {pos : String} {aft : Array Edge} {os : List Oper} {env : Env} (hs : soft.contains t = true) :
  vdr P imm soft gt κ X (⟨some t, .call ⟨.builtin .copy, xs, ts⟩, T, pos, aft, none⟩ :: os) env σ = nev P (isImm imm (some t)) σ (opd env) (dK P imm soft gt κ X os env (some t)) X (.call ⟨.builtin .copy, xs, ts⟩) := by
 simp only [vdr, softC, cond_false]
 unfold vop
 simp only [quiet, cond_false, nv, isW, isSt, isAp, wCall, Bool.or_false, Bool.true_and, Bool.false_or, hs, true_or, true_and]
 rfl
/-- What is written to is not looked at afterwards. -/
theorem vd_st {dst : Option Nat} {op : Op} {T : TypeId} {pos : String} {aft : Array Edge} {os : List Oper} {env : Env} (hst : isSt op = true) :
  vdr P imm soft gt κ X (⟨dst, op, T, pos, aft, none⟩ :: os) env σ = nev P (isImm imm dst) σ (opd env) (dK P imm soft gt κ X os env dst) X op := by
 have hq : quiet op = false := by cases op <;> first | rfl | (simp [isSt] at hst)
 have hs : softC soft ⟨dst, op, T, pos, aft, none⟩ = false := by
  unfold softC
  split
  ·rename_i h1 h2; simp only at h1; rw [h1] at hst; simp [isSt] at hst
  ·rfl
 simp only [vdr, hs, cond_false]
 unfold vop
 simp only [hq, cond_false, nv, isW, hst, Bool.true_or, true_or, true_and]
 rfl
theorem vd_gc {t : Nat} {f : Operand} {xs : Array Operand} {ts : Array TypeId} {T : TypeId} {pos : String} {aft : Array Edge} {os : List Oper} {env : Env} {j : Nat} {want : Bool} (hs : soft.contains t = true)
  (h : GCallK P (gq gt env j want) (cgs env (.call ⟨.value f, xs, ts⟩)) (opc env f) (xs.toList.map (opc env)) (dK P imm soft gt κ X os env (some t)) σ) :
  vdr P imm soft gt κ X (⟨some t, .call ⟨.value f, xs, ts⟩, T, pos, aft, some (j, want)⟩ :: os) env σ := by
 obtain ⟨b, hb, d, h1, h2⟩ := h
 simp only [vdr, softC, hs, cond_true, pv]
 unfold gq at hb
 simp only [hb]
 refine ⟨d, fun e => ?_, h2⟩
 obtain ⟨h3, h4⟩ := h1 e
 refine ⟨h3, ?_⟩
 simp only [PCallOp]
 revert h4
 cases opc env f <;> exact id
theorem cgs_call {f : Operand} {xs : Array Operand} {ts : Array TypeId} {env : Env} : cgs env (.call ⟨.value f, xs, ts⟩) = ((opd env f).cg && xs.toList.all fun x => (opd env x).cg) := by
 unfold cgs
 simp [Op.operands, Call.operands]
theorem cgs_builtin {b : Builtin} {xs : Array Operand} {ts : Array TypeId} {env : Env} : cgs env (.call ⟨.builtin b, xs, ts⟩) = xs.toList.all fun x => (opd env x).cg := by
 unfold cgs
 simp [Op.operands, Call.operands]
theorem scallF {g : Nat} {xs : List D} {d : D} {K : D → Store → Prop} (h : PCall P (.func g) xs d) (hk : K d σ) : SCallK P (.fn (.func g) [] []) xs K σ :=
 ⟨d, ⟨fun e => by simp [isYield] at e, by simpa using h⟩, hk⟩
end
end
end Go.Proofs.YtfjnohmdilmfhaaGreatDoor
/- Own layer, part 21: from what a row tells of its arguments to plain data. -/
namespace Go.Proofs.YtfjnohmdilmfhaaGreatDoor
open Go Go.RowKit
set_option linter.unusedSimpArgs false
set_option linter.unusedVariables false
/-- All the memory that there is. -/
def wholeMem (w : World) : Mem := fun b o => w.cell? ⟨b, o, none⟩
theorem Conc.whole {w : World} (hg : GlobW w []) : Conc (wholeMem w) w [] := ⟨fun _ _ _ h => h, by simp [Store.keys], fun _ _ h => (by cases h), hg⟩
def contig (P : Program) : Nat → List Field → Nat → Bool
 | off, [], n => off == n
 | off, f :: fs, n => f.offset == off && contig P (off + P.cellsOf f.type) fs n
def ShF (S : TypeId → List D → Prop) : List Field → List D → Prop
 | [], ds => ds = []
 | f :: fs, ds => ∃ a b, ds = a ++ b ∧ S f.type a ∧ ShF S fs b
def ShN (S : List D → Prop) : Nat → List D → Prop
 | 0, ds => ds = []
 | n + 1, ds => ∃ a b, ds = a ++ b ∧ S a ∧ ShN S n b
/-- The shape of a type's plain data. -/
def Sh (P : Program) : Nat → TypeId → List D → Prop
 | 0, _, _ => False
 | n + 1, t, ds => match P.underlying t with
  | some .bool => ∃ b, ds = [.bool b]
  | some (.int k) => ∃ x, ds = [.int k x]
  | some .string => ∃ s, ds = [.str s]
  | some (.slice e) => ∃ rows, ds = [.sl (P.cellsOf e) rows .no] ∧ ∀ r ∈ rows, Sh P n e r
  | some (.struct fs) => ShF (Sh P n) fs.toList ds
  | some (.array k e) => ShN (Sh P n e) k ds
  | _ => False
section
variable {H : Type} {enc : TypeId × Value → H} {P : Program} {w : World} {spare : Nat → Bool} {held : Bool}
theorem mapM_get {α β : Type} {f : α → Option β} : ∀ {l : List α} {r : List β}, l.mapM f = some r → r.length = l.length ∧ ∀ (i : Nat) (x : α), l[i]? = some x → ∃ y, f x = some y
 | [], r, h => by simp only [List.mapM_nil] at h; cases h; exact ⟨rfl, by simp⟩
 | a :: l, r, h => by
  simp only [List.mapM_cons, Option.bind_eq_bind, Option.bind_eq_some_iff] at h
  obtain ⟨y, hy, ys, hys, e⟩ := h
  cases e
  obtain ⟨h1, h2⟩ := mapM_get hys
  refine ⟨by simp [h1], fun i x hx => ?_⟩
  cases i with
  | zero => simp at hx; subst hx; exact ⟨y, hy⟩
  | succ i => exact h2 i x (by simpa using hx)
def GoodRow (P : Program) (w : World) (n : Nat) (t : TypeId) (cs : List Value) : Prop :=
 ∃ ds, RAll (wholeMem w) ds cs ∧ Sh P n t ds ∧ cs.length = P.cellsOf t ∧ ds.all D.isCell = true
theorem good_one {n : Nat} {t : TypeId} {d : D} {v : Value} (h : R (wholeMem w) d v) (hc : d.isCell = true) (hs : Sh P n t [d]) (h1 : P.cellsOf t = 1) : GoodRow P w n t [v] :=
 ⟨[d], by simp only [RAll]; exact ⟨h, trivial⟩, hs, by simp [h1], by simp [hc]⟩
theorem RAll_split {M : Mem} : ∀ {a b : List D} {vs : List Value}, RAll M a (vs.take a.length) → RAll M b (vs.drop a.length) → RAll M (a ++ b) vs := by
 intro a b vs h1 h2
 have := RAll.append h1 h2
 rwa [List.take_append_drop] at this
theorem cells_get {a : Addr} {n : Nat} {row : List Value} (hn : 0 < n) (h : w.cells? 0 a n = some row) : a.spot = none ∧ row.length = n ∧ ∀ i v, row[i]? = some v → wholeMem w a.block (a.off + i) = some v := by
 unfold World.cells? at h
 rw [if_pos (Nat.zero_le _)] at h
 have key : ∀ (l : List Nat) (r : List Value), l.mapM (fun i => w.cell? (a.add i)) = some r → r.length = l.length ∧ ∀ (j : Nat) v, r[j]? = some v → ∃ i, l[j]? = some i ∧ w.cell? (a.add i) = some v := by
  intro l
  induction l with
  | nil => intro r h; simp only [List.mapM_nil] at h; cases h; exact ⟨rfl, by simp⟩
  | cons x l ih =>
   intro r h
   simp only [List.mapM_cons, Option.bind_eq_bind, Option.bind_eq_some_iff] at h
   obtain ⟨y, hy, ys, hys, e⟩ := h
   cases e
   obtain ⟨h1, h2⟩ := ih ys hys
   refine ⟨by simp [h1], fun j v hv => ?_⟩
   cases j with
   | zero => simp at hv; subst hv; exact ⟨x, by simp, hy⟩
   | succ j => simpa using h2 j v (by simpa using hv)
 obtain ⟨h1, h2⟩ := key _ _ h
 simp only [List.length_range] at h1
 have get : ∀ i v, row[i]? = some v → w.cell? (a.add i) = some v := fun i v hv => by
  obtain ⟨j, hj, hc⟩ := h2 i v hv
  obtain ⟨hlt, e⟩ := List.getElem?_eq_some_iff.1 hj
  simp at e
  subst e
  exact hc
 have hspot : a.spot = none := by
  obtain ⟨v, hv⟩ : ∃ v, row[0]? = some v := ⟨row[0]'(by omega), by simp [show 0 < row.length by omega]⟩
  have := get 0 v hv
  unfold World.cell? at this
  split at this
  ·split at this
   ·cases this
   ·rename_i hs
    cases e : a.spot with
    | none => rfl
    | some x => simp [Addr.add, e] at hs
  ·cases this
 refine ⟨hspot, h1, fun i v hv => ?_⟩
 have := get i v hv
 cases a with
 | mk b o sp =>
  simp only at hspot
  subst hspot
  rw [addr_add] at this
  exact this
end
end Go.Proofs.YtfjnohmdilmfhaaGreatDoor
/- Own layer, part 22: a row out of a contract. -/
namespace Go.Proofs.YtfjnohmdilmfhaaGreatDoor
open Go Go.RowKit Go.ChangeShapes Go.WideShapes
set_option linter.unusedSimpArgs false
set_option linter.unusedVariables false
/-- The plain data of an argument of a type. -/
def ArgD (P : Program) (n : Nat) (t : TypeId) (d : D) : Prop :=
 match P.underlying t with
 | some (.struct _) | some (.array _ _) => ∃ cs, d = .ag cs ∧ Sh P n t cs
 | _ => Sh P n t [d]
section
variable {H : Type} {enc : TypeId × Value → H} {P : Program} {w : World}
theorem trodAll_len {sp : Nat → Bool} {W : World} : ∀ {ts : List TypeId} {vs : List Value} {dds : List (DataW H)} {ps : List MemPlace}, DataW.TrodAll enc P W 0 sp true ts vs dds ps → dds.length = ts.length
 | [], [], [], _, _ => rfl
 | t :: ts, v :: vs, dd :: dds, _, ⟨_, _, _, h2, _⟩ => by simp [trodAll_len h2]
 | [], _ :: _, _, _, h => h.elim
 | [], [], _ :: _, _, h => h.elim
 | _ :: _, [], _, _, h => h.elim
 | _ :: _, _ :: _, [], _, h => h.elim
theorem trodAll_below {W W' : World} {sp : Nat → Bool} (hl : laidOutB P = true) (hb : Below W.heap.size W W') : ∀ {ts : List TypeId} {vs : List Value} {dds : List (DataW H)} {ps : List MemPlace}, (∀ t ∈ ts, P.readableRec t = true ∧ t < P.types.size) → (∀ x ∈ ps, x.block < W.heap.size) → (∀ x ∈ ps, sp x.block = true) →
  DataW.TrodAll enc P W 0 (fun _ => true) true ts vs dds ps → DataW.TrodAll enc P W' 0 sp true ts vs dds ps
 | [], [], [], _, _, _, _, h => h
 | t :: ts, v :: vs, dd :: dds, ps, hp, hlt, hs, ⟨p, q, h1, h2, e⟩ => by
  subst e
  exact ⟨p, q, WideElems.Trod_stays hl (hp t (by simp)).1 (hp t (by simp)).2 h1 (fun x hx => hb.same (hlt x (List.mem_append_left _ hx))) (fun x hx => hs x (List.mem_append_left _ hx)),
    trodAll_below hl hb (fun u hu => hp u (List.mem_cons_of_mem _ hu)) (fun x hx => hlt x (List.mem_append_right _ hx)) (fun x hx => hs x (List.mem_append_right _ hx)) h2, rfl⟩
 | [], _ :: _, _, _, _, _, _, h => h.elim
 | [], [], _ :: _, _, _, _, _, h => h.elim
 | _ :: _, [], _, _, _, _, _, h => h.elim
 | _ :: _, _ :: _, [], _, _, _, _, h => h.elim
theorem Step.below {M M' : Mem} {W W' : World} {σ : Store} (h : Step M W [] M' W' σ) : Below W.heap.size W W' := ⟨h.os, h.tape, h.output, h.size, fun k hk => h.block k hk (by simp [Store.keys])⟩
/-- THE POST of a law: true, and of what was there nothing has turned. -/
theorem law_post {fn : Func} {s : ChangeSpec} {apart fresh handsOn again : Bool} {tb : TypeId} (hl : laidOutB P = true) (hvars : s.vars = []) (hres : fn.resultTypes = #[tb]) (htb : P.underlying tb = some .bool)
  (hps : ∀ t ∈ fn.params.toList, P.readableRec t = true ∧ t < P.types.size) {W W' : World} {args : Array Value} {ds gs : List (DataW H)} {before : List MemPlace}
  (hsf : s.fn H ds = { results := [.lit (.bool true)], args := ds })
  (hW : DataW.Whole enc P fn.params.toList s.vars apart W args.toList ds gs before) (hb : Below W.heap.size W W') : s.post enc P fn apart fresh handsOn again W args (.bool true) W' := by
 have hlt : ∀ x ∈ before, x.block < W.heap.size := fun x hx => hW.lt x hx
 have hW' := hW
 obtain ⟨p, q, hA, hV, hbe, hfz, hnd⟩ := hW
 rw [hvars] at hV
 obtain ⟨rfl, rfl⟩ := trodVars_none hV
 rw [List.append_nil] at hbe
 subst hbe
 have hfn : s.fn H (ds ++ []) = { results := [.lit (.bool true)], args := ds } := by rw [List.append_nil]; exact hsf
 have hr : ∀ (b : Nat) (sp : Nat → Bool) (hd : Bool), DataW.TrodAll enc P W' b sp hd fn.resultTypes.toList ((Value.bool true).resultList fn.resultTypes.size) [.lit (.bool true)] [] := fun b sp hd => by
  rw [hres]
  exact trodAll_mk1 (shut_bool htb true)
 have ha : ∀ sp : Nat → Bool, (∀ x ∈ before, sp x.block = true) → DataW.TrodAll enc P W' 0 sp true fn.params.toList args.toList ds before := fun sp hsp => trodAll_below hl hb hps hlt hsp hA
 have hv : ∀ sp : Nat → Bool, DataW.TrodVars enc P W' sp s.vars [] [] := fun sp => by rw [hvars]; rfl
 refine ⟨ds, [], before, [], before, [], hW', ?_, ?_, ?_, hb.frame _, fun _ => ⟨ok_one hres rfl (okWide_bool_mk htb true), [.lit (.bool true)] ++ ds, [], [] ++ before, ⟨[] ++ before, [], ?_, hv _, by simp, ?_, hnd⟩, fun x hx _ => by simpa using hx⟩⟩
 ·rw [hfn]; exact hr _ _ _
 ·rw [hfn]; exact ha _ fun x hx => by simpa using hlt x hx
 ·rw [hfn]; exact hv _
 ·exact trodAll_append (ha _ fun _ _ => rfl) (hr _ _ _)
 ·intro b off hx
  rw [List.nil_append] at hx
  rw [hb.frozen (p := ⟨b, off, none⟩) (hlt _ hx)]
  exact hfz b off hx
/-- Rows of one shape. -/
theorem sh_rows {α : Type} {S : List D → Prop} {f : α → List D} (h : ∀ ds, S ds → ∃ x, ds = f x) : ∀ {rows : List (List D)}, (∀ r ∈ rows, S r) → ∃ l : List α, rows = l.map f
 | [], _ => ⟨[], rfl⟩
 | r :: rows, hr => by
  obtain ⟨x, rfl⟩ := h r (hr r (by simp))
  obtain ⟨l, rfl⟩ := sh_rows h (rows := rows) fun q hq => hr q (List.mem_cons_of_mem _ hq)
  exact ⟨x :: l, rfl⟩
end
end Go.Proofs.YtfjnohmdilmfhaaGreatDoor
/- Own layer, part 23: rows that are written to, and that stay from some time on; maps as families. -/
namespace Go.Proofs.YtfjnohmdilmfhaaGreatDoor
open Go Go.RowKit
set_option linter.unusedSimpArgs false
set_option linter.unusedVariables false
section
variable {P : Program} {M : Mem} {w : World} {σ : Store} {r : Option Nat} {nt : Nat}
def boxMem (M : Mem) (b : Nat) (vs : List Value) : Mem := fun b' o => if b' = b then vs[o]? else M b' o
/-- A box of cells becomes memory that stays. -/
theorem Conc.freeze (hc : Conc M w σ) {b : Nat} {x : Box} {vs : List Value} {T : TypeId} {fz : Nat × Nat} (hg : σ.get b = some x) (hh : w.heap[b]? = some (.cells (List.toArray vs) T fz)) (hm : ∀ o, M b o = none) :
  Mem.le M (boxMem M b vs) ∧ Conc (boxMem M b vs) w (σ.del b) ∧ Step M w σ (boxMem M b vs) w (σ.del b) := by
 have hbk : b ∈ σ.keys := Store.get_mem hg
 have hle : Mem.le M (boxMem M b vs) := fun b' o x hx => by
  show (if b' = b then _ else _) = _
  rw [if_neg (fun e => by subst e; rw [hm] at hx; cases hx)]
  exact hx
 have hdel := Store.del_sublist σ b
 have hnot := Store.del_mem (c := b) hc.nodup
 refine ⟨hle, ⟨fun b' o x hx => ?_, hc.nodup.sublist (hdel.map Prod.fst), fun b' y hy => ?_, hc.glob.of (fun _ _ _ => rfl) (fun b' hb' => .inl ((hdel.map Prod.fst).subset hb'))⟩, ⟨hle, rfl, rfl, rfl, Nat.le_refl _, fun _ _ _ => rfl, fun b' hb' => .inl ((hdel.map Prod.fst).subset hb'), fun b' o x hx => ?_⟩⟩
 ·have hx' : (if b' = b then vs[o]? else M b' o) = some x := hx
  split at hx'
  ·rename_i e; subst e
   simp only [World.cell?, hh]
   simpa using hx'
  ·exact hc.mem b' o x hx'
 ·refine (hc.box b' y (hdel.subset hy)).mono hle (fun o v hv => ?_) rfl
  have hne : b' ≠ b := fun e => hnot (e ▸ List.mem_map_of_mem (f := Prod.fst) hy)
  have hv' : (if b' = b then vs[o]? else M b' o) = some v := hv
  rwa [if_neg hne] at hv'
 ·have hx' : (if b' = b then vs[o]? else M b' o) = some x := hx
  split at hx'
  ·rename_i e; exact .inr (.inr (e ▸ hbk))
  ·exact .inl hx'
/-! ### Rows that stay from some time on -/
def fra1 (b sz : Nat) (rows : List (List D)) : D → D
 | .arr b' sz' n cap => if b' = b ∧ sz' = sz ∧ n ≤ rows.length ∧ n ≤ cap ∧ n ≤ lim then .sl sz (rows.take n) .no else .arr b' sz' n cap
 | d => d
def fra (b sz : Nat) (rows : List (List D)) : D → D
 | .arr b' sz' n cap => if b' = b ∧ sz' = sz ∧ n ≤ rows.length ∧ n ≤ cap ∧ n ≤ lim then .sl sz (rows.take n) .no else .arr b' sz' n cap
 | .ag cs => .ag (cs.map (fra1 b sz rows))
 | .tup cs => .tup (cs.map (fra1 b sz rows))
 | d => d
def fraE (ts : List Nat) (b sz : Nat) (rows : List (List D)) (env : Env) : Env := fun i => bif ts.contains i then fra b sz rows (env i) else env i
def fraB (b sz : Nat) (rows : List (List D)) : Box → Box
 | .cells cs => .cells (cs.map (fra1 b sz rows))
 | x => x
def fraS (bs : List Nat) (b sz : Nat) (rows : List (List D)) (σ : Store) : Store := σ.map fun x => (x.1, bif bs.contains x.1 then fraB b sz rows x.2 else x.2)
theorem fraS_keys (bs : List Nat) (b sz : Nat) (rows : List (List D)) (σ : Store) : (fraS bs b sz rows σ).keys = σ.keys := by
 unfold fraS Store.keys
 simp [Function.comp_def]
theorem R_fra1 {M' : Mem} {b sz : Nat} {rows : List (List D)} (hle : Mem.le M M') (hb : RRows M' sz rows b 0) {d : D} {v : Value} (h : R M d v) : R M' (fra1 b sz rows d) v := by
 have h' := h.mono hle
 unfold fra1
 split
 ·rename_i b' sz' n cap
  split
  ·rename_i e
   obtain ⟨rfl, rfl, hn, hc, hl⟩ := e
   simp only [R] at h ⊢
   have htn : (rows.take n).length = n := by rw [List.length_take]; exact Nat.min_eq_left hn
   exact ⟨_, cap, by rw [htn]; exact h, by rw [htn]; exact hc, by rw [htn]; exact hl, fun _ => ⟨b', 0, rfl, hb.take n⟩, by simp only [TokR]⟩
  ·exact h'
 ·exact h'
theorem RAll_fra1 {M' : Mem} {b sz : Nat} {rows : List (List D)} (hle : Mem.le M M') (hb : RRows M' sz rows b 0) : ∀ {ds : List D} {vs : List Value}, RAll M ds vs → RAll M' (ds.map (fra1 b sz rows)) vs
 | [], [], _ => by simp [RAll]
 | d :: ds, v :: vs, h => by simp only [RAll, List.map_cons] at h ⊢; exact ⟨R_fra1 hle hb h.1, RAll_fra1 hle hb h.2⟩
 | [], _ :: _, h => by simp [RAll] at h
 | _ :: _, [], h => by simp [RAll] at h
theorem R_fra {M' : Mem} {b sz : Nat} {rows : List (List D)} (hle : Mem.le M M') (hb : RRows M' sz rows b 0) {d : D} {v : Value} (h : R M d v) : R M' (fra b sz rows d) v := by
 have h' := h.mono hle
 unfold fra
 split
 ·have := R_fra1 hle hb h
  unfold fra1 at this
  exact this
 ·simp only [R] at h ⊢
  obtain ⟨vs, e, h1⟩ := h
  exact ⟨vs, e, RAll_fra1 hle hb h1⟩
 ·simp only [R] at h ⊢
  obtain ⟨vs, e, h1⟩ := h
  exact ⟨vs, e, RAll_fra1 hle hb h1⟩
 ·exact h'
theorem fra1_cell (b sz : Nat) (rows : List (List D)) (d : D) : (fra1 b sz rows d).isCell = d.isCell := by
 unfold fra1
 split
 ·split <;> rfl
 ·rfl
theorem BoxR_fra {M' : Mem} {b sz : Nat} {rows : List (List D)} (hle : Mem.le M M') (hb : RRows M' sz rows b 0) {c : Nat} {x : Box} (h : BoxR M' w c x) (h0 : BoxR M w c x) : BoxR M' w c (fraB b sz rows x) := by
 cases x with
 | cells cs =>
  obtain ⟨_, h4⟩ := h
  obtain ⟨⟨vs, T, k1, k2, k3⟩, k4⟩ := h0
  refine ⟨⟨vs, T, k1, RAll_fra1 hle hb k2, ?_⟩, h4⟩
  rw [List.all_map]
  simpa [Function.comp_def, fra1_cell] using k3
 | _ => exact h
theorem fra_conc {a : Act} {env : Env} {b sz cap : Nat} {rows : List (List D)} (ts bs : List Nat) (hc : Conc M w σ) (he : EnvR M nt env a) (hg : σ.get b = some (.arr sz rows cap)) :
  ∃ M', Conc M' w (fraS bs b sz rows (σ.del b)) ∧ Step M w σ M' w (fraS bs b sz rows (σ.del b)) ∧ EnvR M' nt (fraE ts b sz rows env) a := by
 obtain ⟨⟨vs, T, hh, h2, h3, h4, h5⟩, hm⟩ := hc.box b _ (Store.mem_of_get hg)
 obtain ⟨hle, c1, s1⟩ := hc.freeze hg hh hm
 have hrows : RRows (boxMem M b vs) sz rows b 0 := by
  refine RRows.of_flat (fun r hr => (h5 r hr).1) (RCells_of _ b 0 (h4.mono hle) fun i v hv => ?_)
  show (if b = b then _ else _) = _
  rw [if_pos rfl, Nat.zero_add]
  rw [List.getElem?_take] at hv
  split at hv
  ·exact hv
  ·cases hv
 have hk := fraS_keys bs b sz rows (σ.del b)
 refine ⟨boxMem M b vs, ⟨c1.mem, by rw [hk]; exact c1.nodup, fun c y hy => ?_, c1.glob.of (fun _ _ _ => rfl) (fun b hb => .inl (by rwa [hk] at hb))⟩, { s1 with keys := fun c hc' => s1.keys c (by rwa [hk] at hc') }, he.1, fun i => ?_⟩
 ·obtain ⟨⟨c', x⟩, hx, e⟩ := List.mem_map.1 hy
  cases e
  have hx0 := hc.box c' x ((Store.del_sublist σ b).subset hx)
  have hx1 := c1.box c' x hx
  show BoxR _ w c' (bif bs.contains c' then fraB b sz rows x else x)
  cases bs.contains c' with
  | true => exact BoxR_fra hle hrows hx1 hx0
  | false => exact hx1
 ·unfold fraE
  cases ts.contains i with
  | true => exact R_fra hle hrows (he.2 i)
  | false => exact (he.2 i).mono hle
/-- ROWS THAT WERE WRITTEN TO STAY FROM NOW ON. -/
theorem fza (b : Nat) (ts bs : List Nat) {sz cap : Nat} {rows : List (List D)} {c : Code} {env : Env} {Q : AE → Env → Store → Prop} (hg : σ.get b = some (.arr sz rows cap)) (h : AWp P r nt c (fraE ts b sz rows env) (fraS bs b sz rows (σ.del b)) Q) : AWp P r nt c env σ Q := by
 intro M w a B hc he hd
 obtain ⟨M', c1, s1, e1⟩ := fra_conc ts bs hc he hg
 exact wpIn_mono (h M' w a B c1 e1 (hd.step s1)) (rgPost.trans s1)
/-! ### Slices that grow and are written to -/
/-- Ways that meet again. -/
theorem jn {α : Type} (E : α → Env) (S : α → Store) (ok : α → Prop) {x y : Code} {env : Env} {Q : AE → Env → Store → Prop}
  (h1 : AWp P r nt x env σ (thenQ (fun env' σ' => ∃ z, ok z ∧ EnvLe (E z) env' ∧ (S z).Sublist σ') Q)) (h2 : ∀ z, ok z → AWp P r nt y (E z) (S z) Q) : AWp P r nt (.seq x y) env σ Q := by
 refine sq (h1.mono fun e env' σ' h => ?_)
 cases e with
 | normal =>
  obtain ⟨z, hz, le, sub⟩ := h
  exact weak (E z) le sub (h2 z hz)
 | _ => exact h
/-! ### Calls that come back with a result and a store -/
def RCall (P : Program) (f : Fn) (args : List D) (σ : Store) {α : Type} (F : α → D) (S : α → Store) (ok : α → Prop) : Prop := ACall P f args σ fun r σ' => ∃ y, ok y ∧ r = .ret (F y) ∧ σ' = S y
theorem RCall.ok {f : Fn} {args : List D} {α : Type} {F : α → D} {S : α → Store} {ok : α → Prop} (h : okAll args → RCall P f args σ F S ok) : RCall P f args σ F S ok := ACall.ok h
theorem RCall.frame {f : Fn} {args : List D} {α : Type} {F : α → D} {S : α → Store} {ok : α → Prop} (h : RCall P f args σ F S ok) (ρ : Store) : RCall P f args (σ ++ ρ) F (fun y => S y ++ ρ) ok :=
 (ACall.frame ρ h).mono fun r σ' ⟨σ1, e, y, h1, h2, h3⟩ => ⟨y, h1, h2, by rw [e, h3]⟩
theorem RCall.frameL {f : Fn} {args : List D} {α : Type} {F : α → D} {S : α → Store} {ok : α → Prop} (h : RCall P f args σ F S ok) (ρ : Store) : RCall P f args (ρ ++ σ) F (fun y => ρ ++ S y) ok :=
 (ACall.frameL ρ h).mono fun r σ' ⟨σ1, e, y, h1, h2, h3⟩ => ⟨y, h1, h2, by rw [e, h3]⟩
theorem callR {g : Nat} {fs cs xs : List D} {α : Type} {F : α → D} {S : α → Store} {ok : α → Prop} {K X : D → Store → Prop} (h : RCall P (.func g) (fs ++ xs ++ cs) σ F S ok) (hk : ∀ y, ok y → K (F y) (S y)) : CallK P (.fn (.func g) fs cs) xs K X σ := by
 refine ⟨(fun hy => by cases hy), .inr (ACall.mono h fun r σ' ⟨y, h1, h2, h3⟩ => ?_)⟩
 subst h2; subst h3
 exact hk y h1
theorem retR {rs : List ResultVar} {α : Type} {F : α → D} {S : α → Store} {ok : α → Prop} (y : α) {env : Env} (hs : (S y).Sublist σ) (ho : ok y) (h : (resD P σ env rs).1 ∧ (resD P σ env rs).2 = F y) :
  retQ P rs (fun r σ' => ∃ y, ok y ∧ r = .ret (F y) ∧ σ' = S y) .ret env σ := ⟨h.1, S y, hs, y, ho, by rw [h.2], rfl⟩
/-! ### Maps as families -/
theorem take_mapr {α β : Type} (f : α → β) (n : Nat) (l : List α) : List.take n (List.map f l) = List.map f (List.take n l) := List.map_take.symm
theorem drop_mapr {α β : Type} (f : α → β) (n : Nat) (l : List α) : List.drop n (List.map f l) = List.map f (List.drop n l) := List.map_drop.symm
theorem ofC_nilmap : D.ofC (.map none) = .v (.map none) := rfl
theorem ofC_nilfunc : D.ofC .nilFunc = .v .nilFunc := rfl
theorem ofC_nilptr : D.ofC (.pointer none) = .v (.pointer none) := rfl
theorem lookD_s (z d : D) : lookD true z (some d) = .tup [d, .bool true] := by simp [lookD]
theorem lookD_n (z : D) : lookD true z none = .tup [z, .bool false] := by simp [lookD]
theorem lookD_fs (z d : D) : lookD false z (some d) = d := by simp [lookD]
theorem lookD_fn (z : D) : lookD false z none = z := by simp [lookD]
theorem mget_map {α : Type} (f : Int → D) (g : α → D) (hf : ∀ a b, keqD (f a) (f b) = some (decide (a = b))) (k : Int) : ∀ (l : List (Int × α)),
  mget (f k) (l.map fun x => (f x.1, g x.2)) = some ((l.find? fun x => decide (k = x.1)).map fun x => g x.2)
 | [] => rfl
 | x :: l => by
  simp only [List.map_cons, mget, hf, List.find?_cons]
  by_cases h : k = x.1
  ·simp [h]
  ·simp only [h, decide_false, mget_map f g hf k l]
theorem mput_map {α : Type} (f : Int → D) (g : α → D) (hf : ∀ a b, keqD (f a) (f b) = some (decide (a = b))) (k : Int) (y : α) : ∀ (l : List (Int × α)), (∀ x ∈ l, k ≠ x.1) →
  mput (f k) (g y) (l.map fun x => (f x.1, g x.2)) = some ((l ++ [(k, y)]).map fun x => (f x.1, g x.2))
 | [], _ => rfl
 | x :: l, h => by
  have h1 := h x (by simp)
  have ih := mput_map f g hf k y l fun z hz => h z (List.mem_cons_of_mem _ hz)
  simp only [List.map_cons, mput, hf, h1, decide_false, ih, Option.map_some, List.cons_append]
end
end Go.Proofs.YtfjnohmdilmfhaaGreatDoor

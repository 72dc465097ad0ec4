/- Own layer, part 2: what an operation that changes no memory computes, as plain data; proved of the model's operations. -/
import Derived.Test.YtgccnkihonmlbaaA1
import Derived.Laws.Externs
namespace Go.Proofs.Ytgccnkihonmlbaa
open Go Go.RowKit
set_option linter.unusedSimpArgs false
set_option linter.unusedVariables false

/-! ### What is known of types -/
def lsz (P : Program) (t : TypeId) : Option (Bool × Nat) :=
  match P.underlying t, P.info? t with
  | some (.struct _), some i => some (true, i.size)
  | some (.array _ _), some i => some (true, i.size)
  | some _, some i => some (false, i.size)
  | _, _ => none

/-- A struct's field: where its cells begin, whether it is an aggregate, how many cells it has. -/
def fld (P : Program) (t : TypeId) (i : Nat) : Option (Nat × Bool × Nat) :=
  match P.underlying t with
  | some (.struct fs) => match fs[i]? with
    | some f => (lsz P f.type).map fun x => (f.offset, x)
    | none => none
  | _ => none

/-- A slice's element: its type, whether it is an aggregate, its cells. -/
def sle (P : Program) (t : TypeId) : Option (TypeId × Bool × Nat) :=
  match P.underlying t with
  | some (.slice e) => (lsz P e).map fun x => (e, x)
  | _ => none

def are (P : Program) (t : TypeId) : Option (Nat × Bool × Nat) :=
  match P.underlying t with
  | some (.array n e) => (lsz P e).map fun x => (n, x)
  | _ => none

def ink (P : Program) (t : TypeId) : Option IntKind :=
  match P.underlying t with
  | some (.int k) => some k
  | _ => none

def isStrT (P : Program) (t : TypeId) : Bool := P.underlying t matches some .string
def isBoolT (P : Program) (t : TypeId) : Bool := P.underlying t matches some .bool
def isIfaceT (P : Program) (t : TypeId) : Bool := P.underlying t matches some (.interface _)
def knownT (P : Program) (t : TypeId) : Bool := (P.underlying t).isSome

theorem lsz_some {P : Program} {t : TypeId} {g : Bool} {n : Nat} (h : lsz P t = some (g, n)) :
    ∃ d i, P.underlying t = some d ∧ P.info? t = some i ∧ i.size = n ∧ g = (match d with | .struct _ | .array _ _ => true | _ => false) := by
  unfold lsz at h
  split at h
  all_goals first
    | (simp at h; done)
    | (rename_i hu hi; simp only [Option.some.injEq, Prod.mk.injEq] at h; obtain ⟨rfl, rfl⟩ := h; exact ⟨_, _, hu, hi, rfl, rfl⟩)
    | skip
  rename_i hns hna hu hi
  simp only [Option.some.injEq, Prod.mk.injEq] at h
  obtain ⟨rfl, rfl⟩ := h
  rename_i d i
  refine ⟨d, i, hu, hi, rfl, ?_⟩
  cases d <;> first | rfl | (exact absurd hu (hns _ _)) | (exact absurd hu (hna _ _ _)) | (exfalso; exact hns _ rfl) | (exfalso; exact hna _ _ rfl) | skip


section runs
variable {P : Program} {M : Mem} {w : World}

theorem run_underlying' {t : TypeId} {d : TypeDesc} (h : P.underlying t = some d) : (underlying t).run P w = .ok d w := by
  simp [underlying, h]

theorem run_typeInfo' {t : TypeId} {i : TypeInfo} (h : P.info? t = some i) : (typeInfo t).run P w = .ok i w := by
  simp [typeInfo, h]

theorem run_isAgg' {t : TypeId} {g : Bool} {n : Nat} (h : lsz P t = some (g, n)) : (isAgg t).run P w = .ok g w := by
  obtain ⟨d, i, hu, hi, _, rfl⟩ := lsz_some h
  simp only [isAgg, Sem.run_bind, run_underlying' hu, Result.andThen_ok]
  cases d <;> rfl

theorem run_sizeOf' {t : TypeId} {g : Bool} {n : Nat} (h : lsz P t = some (g, n)) : (sizeOf t).run P w = .ok n w := by
  obtain ⟨d, i, hu, hi, rfl, _⟩ := lsz_some h
  simp [sizeOf, run_typeInfo' hi]

/-- The cells at a place read as data. -/
def WCells (M : Mem) (w : World) : List D → Nat → Nat → Prop
  | [], _, _ => True
  | d :: ds, b, o => (∃ x, w.cell? ⟨b, o, none⟩ = some x ∧ R M d x) ∧ WCells M w ds b (o + 1)

theorem RCells.toW {σ : Store} (hc : Conc M w σ) : ∀ {cs : List D} {b o : Nat}, RCells M cs b o → WCells M w cs b o
  | [], _, _, _ => trivial
  | _ :: _, _, _, h => by
    simp only [RCells] at h
    obtain ⟨⟨x, h1, h2⟩, h3⟩ := h
    exact ⟨⟨x, hc.mem _ _ _ h1, h2⟩, RCells.toW hc h3⟩

theorem WCells.drop : ∀ {ds : List D} {b o : Nat} (n : Nat), WCells M w ds b o → WCells M w (ds.drop n) b (o + n)
  | [], _, _, _, _ => by simp [WCells]
  | _ :: _, _, _, 0, h => by simpa using h
  | _ :: ds, b, o, n + 1, h => by
    simp only [WCells, List.drop_succ_cons] at h ⊢
    have := WCells.drop (ds := ds) (b := b) (o := o + 1) n h.2
    rwa [show o + 1 + n = o + (n + 1) from by omega] at this

theorem WCells.of_heap {b : Nat} {T : TypeId} {fz : Nat × Nat} : ∀ {cs : List D} {vs : List Value} {pre : List Value}, w.heap[b]? = some (.cells (List.toArray (pre ++ vs)) T fz) → RAll M cs vs → WCells M w cs b pre.length
  | [], _, _, _, _ => trivial
  | d :: ds, x :: xs, pre, hw, h => by
    simp only [RAll] at h
    refine ⟨⟨x, ?_, h.1⟩, ?_⟩
    · simp [World.cell?, hw]
    · have := WCells.of_heap (b := b) (T := T) (fz := fz) (cs := ds) (vs := xs) (pre := pre ++ [x]) (by simpa using hw) h.2
      simpa using this
  | _ :: _, [], _, _, h => by simp [RAll] at h

theorem BoxR.wcells {b : Nat} {cs : List D} (h : BoxR M w b (.cells cs)) : WCells M w cs b 0 := by
  obtain ⟨⟨vs, T, h1, h2, _⟩, _⟩ := h
  simpa using WCells.of_heap (M := M) (w := w) (b := b) (T := T) (fz := (0, 0)) (cs := cs) (vs := vs) (pre := []) (by simpa using h1) h2

theorem addr_add (b o n : Nat) : (⟨b, o, none⟩ : Addr).add n = ⟨b, o + n, none⟩ := by
  unfold Addr.add; split <;> simp_all

theorem run_loadCellsFrom : ∀ (n : Nat) (cs : List D) (b o i : Nat) (acc : Array Value), WCells M w cs b (o + i) → n ≤ cs.length →
    ∃ vs, (loadCellsFrom ⟨b, o, none⟩ i n acc).run P w = .ok (acc ++ List.toArray vs) w ∧ RAll M (cs.take n) vs
  | 0, cs, b, o, i, acc, _, _ => ⟨[], by simp [loadCellsFrom], by simp [RAll]⟩
  | n + 1, [], _, _, _, _, _, hn => by simp at hn
  | n + 1, c :: cs, b, o, i, acc, h, hn => by
    obtain ⟨⟨x, hx, hr⟩, h2⟩ := h
    obtain ⟨vs, h3, h4⟩ := run_loadCellsFrom n cs b o (i + 1) (acc.push x) (by rwa [show o + (i + 1) = o + i + 1 from by omega]) (by simpa using hn)
    refine ⟨x :: vs, ?_, by simp only [List.take_succ_cons, RAll]; exact ⟨hr, h4⟩⟩
    simp only [loadCellsFrom, Sem.run_bind, load, Sem.run, addr_add, hx, Result.andThen_ok, h3]
    simp

theorem run_loadCells {n : Nat} {cs : List D} {b o : Nat} (h : WCells M w cs b o) (hn : n ≤ cs.length) :
    ∃ vs, (loadCells ⟨b, o, none⟩ n).run P w = .ok (List.toArray vs) w ∧ RAll M (cs.take n) vs := by
  obtain ⟨vs, h1, h2⟩ := run_loadCellsFrom (P := P) (M := M) (w := w) n cs b o 0 #[] (by simpa using h) hn
  exact ⟨vs, by simpa [loadCells] using h1, h2⟩

/-- What a load of n cells gives. -/
def ldD (g : Bool) (n : Nat) (cs : List D) : D := if g then .ag (cs.take n) else cs.headD .top

theorem run_loadVar {t : TypeId} {g : Bool} {n : Nat} {cs : List D} {b o : Nat} (ht : lsz P t = some (g, n)) (h : WCells M w cs b o) (hn : if g then n ≤ cs.length else 1 ≤ cs.length) :
    ∃ v, (loadVar t ⟨b, o, none⟩).run P w = .ok v w ∧ R M (ldD g n cs) v := by
  unfold loadVar
  simp only [Sem.run_bind, run_isAgg' ht, Result.andThen_ok]
  cases g with
  | true =>
    obtain ⟨vs, h1, h2⟩ := run_loadCells (P := P) h (by simpa using hn)
    simp only [if_true, Sem.run_bind, run_sizeOf' ht, Result.andThen_ok, h1, Sem.run_pure]
    exact ⟨_, rfl, by simp only [ldD, R, if_true]; exact ⟨vs, rfl, h2⟩⟩
  | false =>
    cases cs with
    | nil => simp at hn
    | cons c cs =>
      obtain ⟨⟨x, hx, hr⟩, _⟩ := h
      simp only [Bool.false_eq_true, if_false, load, Sem.run, hx]
      exact ⟨_, rfl, by simpa [ldD] using hr⟩

theorem run_part {t : TypeId} {g : Bool} {n : Nat} {cs : List D} {vs : List Value} {off : Nat} (ht : lsz P t = some (g, n)) (h : RAll M cs vs)
    (hn : if g then True else off < cs.length) :
    ∃ v, (part t (List.toArray vs) off).run P w = .ok v w ∧ R M (ldD g n (cs.drop off)) v := by
  unfold part
  simp only [Sem.run_bind, run_isAgg' ht, Result.andThen_ok]
  cases g with
  | true =>
    simp only [if_true, Sem.run_bind, run_sizeOf' ht, Result.andThen_ok, Sem.run_pure]
    refine ⟨_, rfl, ?_⟩
    simp only [ldD, R, if_true]
    refine ⟨(vs.drop off).take n, ?_, (h.drop off).take n⟩
    simp only [List.extract_toArray, List.extract_eq_take_drop]
    congr 3
    omega
  | false =>
    simp only [Bool.false_eq_true, if_false] at hn ⊢
    have hl := h.length
    obtain ⟨y, hy, hr⟩ := h.get (i := off) (d := cs[off]) (by simp [hn])
    have : (List.toArray vs)[off]? = some y := by simpa using hy
    rw [this]
    refine ⟨y, rfl, ?_⟩
    simp only [ldD, Bool.false_eq_true, if_false]
    rw [List.drop_eq_getElem_cons hn]
    exact hr
end runs

/-! ### Ranges of integers -/
theorem inR_wrap (k : IntKind) (n : Int) : inR k (k.wrap n) := by
  unfold inR IntKind.wrap IntKind.min IntKind.max
  cases k <;> simp [IntKind.signed, IntKind.bits] <;> (try split) <;> omega

theorem inR_iff (k : IntKind) (n : Int) : inR k n ↔ k.min ≤ n ∧ n ≤ k.max := Iff.rfl

theorem inR_i64 (n : Int) : inR .i64 n ↔ -9223372036854775808 ≤ n ∧ n ≤ 9223372036854775807 := by
  unfold inR IntKind.min IntKind.max; simp [IntKind.signed, IntKind.bits]
theorem inR_u8 (n : Int) : inR .u8 n ↔ 0 ≤ n ∧ n ≤ 255 := by
  unfold inR IntKind.min IntKind.max; simp [IntKind.signed, IntKind.bits]
theorem inR_i32 (n : Int) : inR .i32 n ↔ -2147483648 ≤ n ∧ n ≤ 2147483647 := by
  unfold inR IntKind.min IntKind.max; simp [IntKind.signed, IntKind.bits]
theorem inR_u64 (n : Int) : inR .u64 n ↔ 0 ≤ n ∧ n ≤ 18446744073709551615 := by
  unfold inR IntKind.min IntKind.max; simp [IntKind.signed, IntKind.bits]

theorem inR_tmod {k : IntKind} {a : Int} (b : Int) (h : inR k a) : inR k (a.tmod b) := by
  have h1 : k.min ≤ 0 ∧ 0 ≤ k.max := by unfold IntKind.min IntKind.max; cases k <;> simp [IntKind.signed, IntKind.bits]
  rw [inR_iff] at h ⊢
  have hn : (a.tmod b).natAbs ≤ a.natAbs := by rw [Int.natAbs_tmod]; exact Nat.mod_le _ _
  rcases Int.le_total 0 a with ha | ha
  · have h2 := Int.tmod_nonneg b ha
    omega
  · have e : a.tmod b = -((-a).tmod b) := by rw [Int.neg_tmod]; omega
    have h2 := Int.tmod_nonneg b (a := -a) (by omega)
    omega

theorem inR_fdiv {k : IntKind} {a : Int} (n : Nat) (h : inR k a) : inR k (a.fdiv (2 ^ n)) := by
  have h1 : k.min ≤ 0 ∧ 0 ≤ k.max := by unfold IntKind.min IntKind.max; cases k <;> simp [IntKind.signed, IntKind.bits]
  rw [inR_iff] at h ⊢
  have hp : (1 : Int) ≤ 2 ^ n := by
    have : 0 < (2 : Int) ^ n := Int.pow_pos (by omega)
    omega
  rw [Int.fdiv_eq_ediv_of_nonneg _ (by omega)]
  rcases Int.le_total 0 a with ha | ha
  · have h2 := Int.ediv_nonneg ha (show (0 : Int) ≤ 2 ^ n by omega)
    have h3 : a / 2 ^ n ≤ a := Int.ediv_le_self _ ha
    omega
  · have h2 : a / 2 ^ n ≤ 0 := by
      have := Int.ediv_le_ediv (show (0 : Int) < 2 ^ n by omega) ha
      simpa using this
    have h3 : a ≤ a / 2 ^ n := by
      rw [Int.le_ediv_iff_mul_le (by omega)]
      have := Int.mul_le_mul_of_nonpos_left ha hp
      simpa using this
    omega

end Go.Proofs.Ytgccnkihonmlbaa

/- Own layer, part 1: plain data for Go values, the reading of a value as plain data over a snapshot of memory, a store of local boxes. -/
import Derived.CallsIn
import Derived.Below
import Derived.Laws.Sem
import Derived.Laws.World
import Derived.Laws.Externs
import Derived.Laws.Concat
import Derived.Laws.Strings2
import Derived.Laws.StructEq
import Derived.Laws.BytesArg
import Derived.Laws.Append
import Derived.Laws.RangeAny
namespace Go.Proofs.YtfjnohmdilmfhaaGreatDoor
open Go Go.RowKit
set_option linter.unusedSimpArgs false
set_option linter.unusedVariables false
/-- What is known of a slice's spare room: nothing; it is nil; it is the row of block b with room for cap rows; it is full. -/
inductive Tok where
 | no | nil | own (b cap : Nat) | full
 deriving DecidableEq
inductive D where
 | int (k : IntKind) (n : Int)
 | bool (b : Bool)
 | str (s : List UInt8)
 | v (x : Value)
 | sl (sz : Nat) (rows : List (List D)) (t : Tok)
 | ptr (b o : Nat)
 | el (cs : List D)
 | mp (b : Nat)
 | fn (f : Fn) (first caps : List D)
 | ifc (t : Nat) (d : D)
 | ag (cs : List D)
 | tup (ds : List D)
 | cnd (g : Bool) (d : D)
 | arr (b sz n cap : Nat)
 | top
instance : Inhabited D := ⟨.top⟩
abbrev Mem := Nat → Nat → Option Value
def lim : Nat := 9223372036854775807
theorem lim_eq : lim = 9223372036854775807 := rfl
def inR (k : IntKind) (n : Int) : Prop := k.min ≤ n ∧ n ≤ k.max
def TokR : Tok → Option Addr → Nat → Nat → Prop
 | .no, _, _, _ => True
 | .nil, p, cap, _ => p = none ∧ cap = 0
 | .own b c, p, cap, _ => p = some ⟨b, 0, none⟩ ∧ cap = c
 | .full, _, cap, n => cap = n
mutual
def R (M : Mem) : D → Value → Prop
 | .int k n, y => y = .int k n ∧ inR k n
 | .bool b, y => y = .bool b
 | .str s, y => y = .string ⟨s.toArray⟩ ∧ s.length ≤ lim
 | .v x, y => y = x
 | .sl sz rows t, y => ∃ p cap, y = .slice p rows.length cap ∧ rows.length ≤ cap ∧ rows.length ≤ lim ∧
   (rows ≠ [] → ∃ b o, p = some ⟨b, o, none⟩ ∧ RRows M sz rows b o) ∧ TokR t p cap rows.length
 | .ptr b o, y => y = .pointer (some ⟨b, o, none⟩)
 | .el cs, y => ∃ b o, y = .pointer (some ⟨b, o, none⟩) ∧ RCells M cs b o
 | .mp b, y => y = .map (some b)
 | .fn f fs cs, y => ∃ vs us, y = .func f vs.toArray us.toArray ∧ RAll M fs vs ∧ RAll M cs us
 | .ifc t d, y => ∃ u, y = .iface t u ∧ R M d u
 | .ag cs, y => ∃ vs, y = .agg vs.toArray ∧ RAll M cs vs
 | .tup ds, y => ∃ vs, y = .tuple vs.toArray ∧ RAll M ds vs
 | .cnd g d, y => (g = true → R M d y) ∧ (g = false → y = undef)
 | .arr b _ n cap, y => y = .slice (some ⟨b, 0, none⟩) n cap
 | .top, _ => True
def RAll (M : Mem) : List D → List Value → Prop
 | [], [] => True
 | d :: ds, x :: xs => R M d x ∧ RAll M ds xs
 | _, _ => False
def RCells (M : Mem) : List D → Nat → Nat → Prop
 | [], _, _ => True
 | d :: ds, b, o => (∃ x, M b o = some x ∧ R M d x) ∧ RCells M ds b (o + 1)
def RRows (M : Mem) (sz : Nat) : List (List D) → Nat → Nat → Prop
 | [], _, _ => True
 | r :: rs, b, o => r.length = sz ∧ RCells M r b o ∧ RRows M sz rs b (o + sz)
end
def Mem.le (M M' : Mem) : Prop := ∀ b o x, M b o = some x → M' b o = some x
theorem Mem.le.refl (M : Mem) : Mem.le M M := fun _ _ _ h => h
theorem Mem.le.trans {M M' M'' : Mem} (h : Mem.le M M') (h' : Mem.le M' M'') : Mem.le M M'' := fun _ _ _ hx => h' _ _ _ (h _ _ _ hx)
mutual
theorem R.mono {M M' : Mem} (hM : Mem.le M M') : ∀ (d : D) (y : Value), R M d y → R M' d y
 | .int _ _, _, h => by simp only [R] at h ⊢; exact h
 | .bool _, _, h => by simp only [R] at h ⊢; exact h
 | .str _, _, h => by simp only [R] at h ⊢; exact h
 | .v _, _, h => by simp only [R] at h ⊢; exact h
 | .sl sz rows t, _, h => by
  simp only [R] at h ⊢
  obtain ⟨p, cap, h1, h2, h3, h4, h5⟩ := h
  exact ⟨p, cap, h1, h2, h3, fun hn => let ⟨b, o, e, hr⟩ := h4 hn; ⟨b, o, e, RRows.mono hM sz rows b o hr⟩, h5⟩
 | .ptr _ _, _, h => by simp only [R] at h ⊢; exact h
 | .el cs, _, h => by
  simp only [R] at h ⊢
  obtain ⟨b, o, e, hr⟩ := h
  exact ⟨b, o, e, RCells.mono hM cs b o hr⟩
 | .mp _, _, h => by simp only [R] at h ⊢; exact h
 | .fn f fs cs, _, h => by
  simp only [R] at h ⊢
  obtain ⟨vs, us, e, h1, h2⟩ := h
  exact ⟨vs, us, e, RAll.mono hM fs vs h1, RAll.mono hM cs us h2⟩
 | .ifc t d, _, h => by
  simp only [R] at h ⊢
  obtain ⟨u, e, h1⟩ := h
  exact ⟨u, e, R.mono hM d u h1⟩
 | .ag cs, _, h => by
  simp only [R] at h ⊢
  obtain ⟨u, e, h1⟩ := h
  exact ⟨u, e, RAll.mono hM cs u h1⟩
 | .tup cs, _, h => by
  simp only [R] at h ⊢
  obtain ⟨u, e, h1⟩ := h
  exact ⟨u, e, RAll.mono hM cs u h1⟩
 | .cnd g d, y, h => by
  simp only [R] at h ⊢
  exact ⟨fun e => R.mono hM d y (h.1 e), h.2⟩
 | .arr _ _ _ _, _, h => by simp only [R] at h ⊢; exact h
 | .top, _, _ => by simp only [R]
theorem RAll.mono {M M' : Mem} (hM : Mem.le M M') : ∀ (ds : List D) (ys : List Value), RAll M ds ys → RAll M' ds ys
 | [], [], _ => by simp only [RAll]
 | d :: ds, x :: xs, h => by simp only [RAll] at h ⊢; exact ⟨R.mono hM d x h.1, RAll.mono hM ds xs h.2⟩
 | [], _ :: _, h => by simp [RAll] at h
 | _ :: _, [], h => by simp [RAll] at h
theorem RCells.mono {M M' : Mem} (hM : Mem.le M M') : ∀ (ds : List D) (b o : Nat), RCells M ds b o → RCells M' ds b o
 | [], _, _, _ => by simp only [RCells]
 | d :: ds, b, o, h => by
  simp only [RCells] at h ⊢
  obtain ⟨⟨x, h1, h2⟩, h3⟩ := h
  exact ⟨⟨x, hM _ _ _ h1, R.mono hM d x h2⟩, RCells.mono hM ds b (o + 1) h3⟩
theorem RRows.mono {M M' : Mem} (hM : Mem.le M M') (sz : Nat) : ∀ (rs : List (List D)) (b o : Nat), RRows M sz rs b o → RRows M' sz rs b o
 | [], _, _, _ => by simp only [RRows]
 | r :: rs, b, o, h => by
  simp only [RRows] at h ⊢
  exact ⟨h.1, RCells.mono hM r b o h.2.1, RRows.mono hM sz rs b (o + sz) h.2.2⟩
end
theorem RAll.length {M : Mem} : ∀ {ds : List D} {ys : List Value}, RAll M ds ys → ds.length = ys.length
 | [], [], _ => rfl
 | _ :: _, _ :: _, h => by simp only [RAll] at h; simp [RAll.length h.2]
 | [], _ :: _, h => by simp [RAll] at h
 | _ :: _, [], h => by simp [RAll] at h
theorem RAll.append {M : Mem} : ∀ {ds es : List D} {ys zs : List Value}, RAll M ds ys → RAll M es zs → RAll M (ds ++ es) (ys ++ zs)
 | [], _, [], _, _, h => by simpa using h
 | _ :: _, _, _ :: _, _, h, h' => by simp only [RAll, List.cons_append] at h ⊢; exact ⟨h.1, RAll.append h.2 h'⟩
 | [], _, _ :: _, _, h, _ => by simp [RAll] at h
 | _ :: _, _, [], _, h, _ => by simp [RAll] at h
theorem RAll.get {M : Mem} : ∀ {ds : List D} {ys : List Value} {i : Nat} {d : D}, RAll M ds ys → ds[i]? = some d → ∃ y, ys[i]? = some y ∧ R M d y
 | [], _, _, _, _, h => by simp at h
 | _ :: _, [], _, _, h, _ => by simp [RAll] at h
 | e :: ds, y :: ys, 0, d, h, hd => by
  simp only [RAll] at h
  simp at hd
  subst hd
  exact ⟨y, by simp, h.1⟩
 | e :: ds, y :: ys, i + 1, d, h, hd => by
  simp only [RAll] at h
  simpa using RAll.get (i := i) h.2 (by simpa using hd)
theorem RAll.take {M : Mem} : ∀ {ds : List D} {ys : List Value} (n : Nat), RAll M ds ys → RAll M (ds.take n) (ys.take n)
 | [], [], n, _ => by simp [RAll]
 | _ :: _, _ :: _, 0, _ => by simp [RAll]
 | _ :: _, _ :: _, n + 1, h => by simp only [RAll, List.take_succ_cons] at h ⊢; exact ⟨h.1, RAll.take n h.2⟩
 | [], _ :: _, _, h => by simp [RAll] at h
 | _ :: _, [], _, h => by simp [RAll] at h
theorem RAll.drop {M : Mem} : ∀ {ds : List D} {ys : List Value} (n : Nat), RAll M ds ys → RAll M (ds.drop n) (ys.drop n)
 | [], [], n, _ => by simp [RAll]
 | _ :: _, _ :: _, 0, h => by simpa using h
 | _ :: _, _ :: _, n + 1, h => by simp only [RAll, List.drop_succ_cons] at h ⊢; exact RAll.drop n h.2
 | [], _ :: _, _, h => by simp [RAll] at h
 | _ :: _, [], _, h => by simp [RAll] at h
theorem RCells.drop {M : Mem} : ∀ {ds : List D} {b o : Nat} (n : Nat), RCells M ds b o → RCells M (ds.drop n) b (o + n)
 | [], _, _, _, _ => by simp [RCells]
 | _ :: _, _, _, 0, h => by simpa using h
 | _ :: ds, b, o, n + 1, h => by
  simp only [RCells, List.drop_succ_cons] at h ⊢
  have := RCells.drop (ds := ds) (b := b) (o := o + 1) n h.2
  rwa [show o + 1 + n = o + (n + 1) from by omega] at this
theorem RCells.get {M : Mem} : ∀ {ds : List D} {b o i : Nat} {d : D}, RCells M ds b o → ds[i]? = some d → ∃ y, M b (o + i) = some y ∧ R M d y
 | [], _, _, _, _, _, h => by simp at h
 | e :: ds, b, o, 0, d, h, hd => by
  simp only [RCells] at h
  simp at hd
  subst hd
  exact h.1
 | e :: ds, b, o, i + 1, d, h, hd => by
  simp only [RCells] at h
  have := RCells.get (i := i) h.2 (by simpa using hd)
  rwa [show o + 1 + i = o + (i + 1) from by omega] at this
theorem RRows.get {M : Mem} {sz : Nat} : ∀ {rs : List (List D)} {b o i : Nat} {r : List D}, RRows M sz rs b o → rs[i]? = some r → r.length = sz ∧ RCells M r b (o + i * sz)
 | [], _, _, _, _, _, h => by simp at h
 | e :: ds, b, o, 0, d, h, hd => by
  simp only [RRows] at h
  simp at hd
  subst hd
  simpa using ⟨h.1, h.2.1⟩
 | e :: ds, b, o, i + 1, d, h, hd => by
  simp only [RRows] at h
  have := RRows.get (i := i) h.2.2 (by simpa using hd)
  rwa [show o + sz + i * sz = o + (i + 1) * sz from by rw [Nat.add_mul]; omega] at this
theorem RRows.take {M : Mem} {sz : Nat} : ∀ {rs : List (List D)} {b o : Nat} (n : Nat), RRows M sz rs b o → RRows M sz (rs.take n) b o
 | [], _, _, _, _ => by simp [RRows]
 | _ :: _, _, _, 0, _ => by simp [RRows]
 | _ :: _, _, _, n + 1, h => by simp only [RRows, List.take_succ_cons] at h ⊢; exact ⟨h.1, h.2.1, RRows.take n h.2.2⟩
theorem RRows.drop {M : Mem} {sz : Nat} : ∀ {rs : List (List D)} {b o : Nat} (n : Nat), RRows M sz rs b o → RRows M sz (rs.drop n) b (o + n * sz)
 | [], _, _, _, _ => by simp [RRows]
 | _ :: _, _, _, 0, h => by simpa using h
 | _ :: ds, b, o, n + 1, h => by
  simp only [RRows, List.drop_succ_cons] at h ⊢
  have := RRows.drop (rs := ds) (b := b) (o := o + sz) n h.2.2
  rwa [show o + sz + n * sz = o + (n + 1) * sz from by rw [Nat.add_mul]; omega] at this
theorem RRows.append {M : Mem} {sz : Nat} : ∀ {rs ss : List (List D)} {b o : Nat}, RRows M sz rs b o → RRows M sz ss b (o + rs.length * sz) → RRows M sz (rs ++ ss) b o
 | [], _, _, _, _, h => by simpa using h
 | _ :: rs, ss, b, o, h, h' => by
  simp only [RRows, List.cons_append] at h ⊢
  refine ⟨h.1, h.2.1, RRows.append h.2.2 ?_⟩
  rwa [show o + sz + rs.length * sz = o + (rs.length + 1) * sz from by rw [Nat.add_mul]; omega]
/-! ### Cells -/
def D.isCell : D → Bool
 | .int .. | .bool _ | .str _ | .sl .. | .ptr .. | .el _ | .mp _ | .fn .. | .ifc .. | .arr .. => true
 | .v x => x.oneCell'
 | _ => false
theorem R.oneCell {M : Mem} {d : D} {y : Value} (h : R M d y) (hd : d.isCell = true) : y.oneCell' = true := by
 cases d <;> simp only [D.isCell, Bool.false_eq_true] at hd <;> simp only [R] at h
 ·rw [h.1]; rfl
 ·rw [h]; rfl
 ·rw [h.1]; rfl
 ·rw [h]; exact hd
 ·obtain ⟨_, _, e, _⟩ := h; rw [e]; rfl
 ·rw [h]; rfl
 ·obtain ⟨_, _, e, _⟩ := h; rw [e]; rfl
 ·rw [h]; rfl
 ·obtain ⟨_, _, e, _⟩ := h; rw [e]; rfl
 ·obtain ⟨_, e, _⟩ := h; rw [e]; rfl
 ·rw [h]; rfl
/-- The cells of a value. -/
def D.cellsOf : D → List D
 | .ag cs => cs
 | d => [d]
/-! ### The store of local boxes -/
inductive Box where
 | cells (cs : List D)
 | tail (sz n cap : Nat)
 | arr (sz : Nat) (rows : List (List D)) (cap : Nat)
 | map (es : List (D × D))
 | siter (s : List UInt8) (pos : Nat)
 | obj (o : Obj) (env : Nat → D) (tm : Array Value)
abbrev Store := List (Nat × Box)
def Store.keys (σ : Store) : List Nat := σ.map Prod.fst
def Store.get : Store → Nat → Option Box
 | [], _ => none
 | (b, x) :: σ, c => if c = b then some x else Store.get σ c
def Store.upd : Store → Nat → Box → Store
 | [], _, _ => []
 | (b, x) :: σ, c, y => if c = b then (b, y) :: σ else (b, x) :: Store.upd σ c y
theorem Store.keys_upd : ∀ (σ : Store) (c : Nat) (y : Box), (σ.upd c y).keys = σ.keys
 | [], _, _ => rfl
 | (b, x) :: σ, c, y => by
  unfold Store.upd
  split
  ·rfl
  ·have := Store.keys_upd σ c y
   simp only [Store.keys, List.map_cons] at this ⊢
   rw [this]
theorem Store.mem_of_get : ∀ {σ : Store} {c : Nat} {y : Box}, σ.get c = some y → (c, y) ∈ σ
 | [], _, _, h => by simp [Store.get] at h
 | (b, x) :: σ, c, y, h => by
  unfold Store.get at h
  split at h
  ·rename_i e; cases h; rw [e]; simp
  ·exact List.mem_cons_of_mem _ (Store.mem_of_get h)
theorem Store.get_mem {σ : Store} {c : Nat} {y : Box} (h : σ.get c = some y) : c ∈ σ.keys :=
 List.mem_map_of_mem (f := Prod.fst) (Store.mem_of_get h)
theorem Store.mem_upd : ∀ {σ : Store} {c d : Nat} {y z : Box}, σ.keys.Nodup → (d, z) ∈ σ.upd c y → (d = c ∧ z = y ∧ c ∈ σ.keys) ∨ (d ≠ c ∧ (d, z) ∈ σ)
 | [], _, _, _, _, _, h => by simp [Store.upd] at h
 | (b, x) :: σ, c, d, y, z, hn, h => by
  simp only [Store.keys, List.map_cons, List.nodup_cons] at hn
  unfold Store.upd at h
  split at h
  ·rename_i e
   subst e
   rcases List.mem_cons.1 h with h | h
   ·cases h; exact .inl ⟨rfl, rfl, by simp [Store.keys]⟩
   ·have h2 := List.mem_map_of_mem (f := Prod.fst) h
    exact .inr ⟨fun e => hn.1 (e ▸ h2), List.mem_cons_of_mem _ h⟩
  ·rename_i e
   rcases List.mem_cons.1 h with h | h
   ·cases h; exact .inr ⟨fun e' => e e'.symm, by simp⟩
   ·rcases Store.mem_upd hn.2 h with ⟨h1, h2, h3⟩ | ⟨h1, h2⟩
    ·exact .inl ⟨h1, h2, by simp only [Store.keys, List.map_cons, List.mem_cons]; exact .inr h3⟩
    ·exact .inr ⟨h1, List.mem_cons_of_mem _ h2⟩
/-- One entry of a map. -/
def EntR (M : Mem) (e : D × D) (m : MapEntry) : Prop := R M e.1 m.key ∧ R M e.2 m.val
def EntsR (M : Mem) : List (D × D) → List MapEntry → Prop
 | [], [] => True
 | e :: es, m :: ms => EntR M e m ∧ EntsR M es ms
 | _, _ => False
theorem EntsR.mono {M M' : Mem} (h : Mem.le M M') : ∀ {es : List (D × D)} {ms : List MapEntry}, EntsR M es ms → EntsR M' es ms
 | [], [], _ => trivial
 | _ :: _, _ :: _, ⟨h1, h2⟩ => ⟨⟨R.mono h _ _ h1.1, R.mono h _ _ h1.2⟩, EntsR.mono h h2⟩
 | [], _ :: _, h => h.elim
 | _ :: _, [], h => h.elim
def BoxR (M : Mem) (w : World) (b : Nat) : Box → Prop
 | .cells cs => (∃ vs T, w.heap[b]? = some (.cells (List.toArray vs) T (0, 0)) ∧ RAll M cs vs ∧ cs.all D.isCell = true) ∧ ∀ o, M b o = none
 | .tail sz n cap => (∃ vs T, w.heap[b]? = some (.cells vs T (0, 0)) ∧ vs.size = cap * sz ∧ n ≤ cap) ∧ ∀ o, n * sz ≤ o → M b o = none
 | .arr sz rows cap => (∃ vs T, w.heap[b]? = some (.cells (List.toArray vs) T (0, 0)) ∧ vs.length = cap * sz ∧ rows.length ≤ cap ∧
     RAll M rows.flatten (vs.take (rows.length * sz)) ∧ (∀ r ∈ rows, r.length = sz ∧ r.all D.isCell = true)) ∧ ∀ o, M b o = none
 | .map es => (∃ ms clock, w.heap[b]? = some (.map (List.toArray ms) clock) ∧ EntsR M es ms ∧ (ms.map (·.born)).Nodup ∧ ∀ m ∈ ms, m.born < clock) ∧ ∀ o, M b o = none
 | .siter s pos => w.heap[b]? = some (.stringIter ⟨s.toArray⟩ pos) ∧ ∀ o, M b o = none
 | .obj o env tm => w.heap[b]? = some o ∧ (∀ k, M b k = none) ∧ ∀ i, R M (env i) (tm.getD i undef)
theorem BoxR.mono {M M' : Mem} {w w' : World} {b : Nat} {x : Box} (hM : Mem.le M M') (hg : ∀ o v, M' b o = some v → M b o = some v)
  (hw : w'.heap[b]? = w.heap[b]?) (h : BoxR M w b x) : BoxR M' w' b x := by
 have hn : ∀ o, M b o = none → M' b o = none := fun o h => by
  cases e : M' b o with
  | none => rfl
  | some v => rw [hg o v e] at h; cases h
 cases x with
 | cells cs =>
  obtain ⟨⟨vs, T, h1, h2, h3⟩, h4⟩ := h
  exact ⟨⟨vs, T, hw.trans h1, RAll.mono hM _ _ h2, h3⟩, fun o => hn o (h4 o)⟩
 | tail sz n cap =>
  obtain ⟨⟨vs, T, h1, h2, h3⟩, h4⟩ := h
  exact ⟨⟨vs, T, hw.trans h1, h2, h3⟩, fun o ho => hn o (h4 o ho)⟩
 | arr sz rows cap =>
  obtain ⟨⟨vs, T, h1, h2, h3, h5, h6⟩, h4⟩ := h
  exact ⟨⟨vs, T, hw.trans h1, h2, h3, RAll.mono hM _ _ h5, h6⟩, fun o => hn o (h4 o)⟩
 | map es =>
  obtain ⟨⟨ms, c, h1, h2, h3⟩, h4⟩ := h
  exact ⟨⟨ms, c, hw.trans h1, h2.mono hM, h3⟩, fun o => hn o (h4 o)⟩
 | siter s pos => exact ⟨hw.trans h.1, fun o => hn o (h.2 o)⟩
 | obj o env tm => exact ⟨hw.trans h.1, fun k => hn k (h.2.1 k), fun i => R.mono hM _ _ (h.2.2 i)⟩
theorem BoxR.lt {M : Mem} {w : World} {b : Nat} {x : Box} (h : BoxR M w b x) : b < w.heap.size := by
 have : ∃ o, w.heap[b]? = some o := by
  cases x with
  | cells cs => obtain ⟨⟨vs, T, h1, _⟩, _⟩ := h; exact ⟨_, h1⟩
  | tail sz n cap => obtain ⟨⟨vs, T, h1, _⟩, _⟩ := h; exact ⟨_, h1⟩
  | arr sz rows cap => obtain ⟨⟨vs, T, h1, _⟩, _⟩ := h; exact ⟨_, h1⟩
  | map es => obtain ⟨⟨ms, c, h1, _⟩, _⟩ := h; exact ⟨_, h1⟩
  | siter s pos => exact ⟨_, h.1⟩
  | obj o env tm => exact ⟨_, h.1⟩
 obtain ⟨o, ho⟩ := this
 exact (Array.getElem?_eq_some_iff.1 ho).1
/-- What is known of the places of the program's own variables, from the first world on (the seat's file: empty where no law asks for it). -/
def globs : List (Nat × (Array Value → Prop)) := [(0, fun cs => ∃ m, cs[0]? = some (.int .i64 m)), (5, fun cs => cs = ((List.range 20).map fun i => Value.int .u64 ((10 ^ i : Nat) : Int)).toArray)]
def GlobW (w : World) (σ : Store) : Prop := ∀ x ∈ globs, x.1 ∉ σ.keys ∧ ∃ cs T fz, w.heap[x.1]? = some (.cells cs T fz) ∧ x.2 cs
theorem GlobW.of {w w' : World} {σ σ' : Store} (h : GlobW w σ) (hb : ∀ b, b < w.heap.size → b ∉ σ.keys → w'.heap[b]? = w.heap[b]?) (hk : ∀ b, b ∈ σ'.keys → b ∈ σ.keys ∨ w.heap.size ≤ b) : GlobW w' σ' := by
 intro x hx
 obtain ⟨h1, cs, T, fz, h2, h3⟩ := h x hx
 have hlt : x.1 < w.heap.size := (Array.getElem?_eq_some_iff.1 h2).1
 exact ⟨fun hc => (hk _ hc).elim h1 (fun h => by omega), cs, T, fz, (hb _ hlt h1).trans h2, h3⟩
theorem GlobW.other {w w' : World} {σ : Store} {D : Nat} {l : Option (List Deferred)} (h : GlobW w σ) (hD : w.heap[D]? = some (.deferred l)) (ho : ∀ k, k ≠ D → w'.heap[k]? = w.heap[k]?) : GlobW w' σ := by
 intro x hx
 obtain ⟨h1, cs, T, fz, h2, h3⟩ := h x hx
 exact ⟨h1, cs, T, fz, (ho _ (fun e => by rw [e, hD] at h2; cases h2)).trans h2, h3⟩
structure Conc (M : Mem) (w : World) (σ : Store) : Prop where
 mem : ∀ b o x, M b o = some x → w.cell? ⟨b, o, none⟩ = some x
 nodup : σ.keys.Nodup
 box : ∀ b x, (b, x) ∈ σ → BoxR M w b x
 glob : GlobW w σ
theorem Conc.lt {M : Mem} {w : World} {σ : Store} (h : Conc M w σ) {b : Nat} (hb : b ∈ σ.keys) : b < w.heap.size := by
 obtain ⟨⟨b', x⟩, hm, rfl⟩ := List.mem_map.1 hb
 exact (h.box _ _ hm).lt
theorem Conc.memLt {M : Mem} {w : World} {σ : Store} (h : Conc M w σ) {b o : Nat} {x : Value} (hx : M b o = some x) : b < w.heap.size :=
 World.block_lt_of_cell? (a := ⟨b, o, none⟩) w (h.mem _ _ _ hx)
structure Step (M : Mem) (w : World) (σ : Store) (M' : Mem) (w' : World) (σ' : Store) : Prop where
 le : Mem.le M M'
 os : w'.os = w.os
 tape : w'.tape = w.tape
 output : w'.output = w.output
 size : w.heap.size ≤ w'.heap.size
 block : ∀ b, b < w.heap.size → b ∉ σ.keys → w'.heap[b]? = w.heap[b]?
 keys : ∀ b, b ∈ σ'.keys → b ∈ σ.keys ∨ w.heap.size ≤ b
 grow : ∀ b o x, M' b o = some x → M b o = some x ∨ w.heap.size ≤ b ∨ b ∈ σ.keys
theorem Step.refl (M : Mem) (w : World) (σ : Store) : Step M w σ M w σ :=
 ⟨Mem.le.refl _, rfl, rfl, rfl, Nat.le_refl _, fun _ _ _ => rfl, fun _ h => .inl h, fun _ _ _ h => .inl h⟩
theorem Step.trans {M M' M'' : Mem} {w w' w'' : World} {σ σ' σ'' : Store} (h : Step M w σ M' w' σ') (k : Step M' w' σ' M'' w'' σ'') : Step M w σ M'' w'' σ'' where
 le := h.le.trans k.le
 os := k.os.trans h.os
 tape := k.tape.trans h.tape
 output := k.output.trans h.output
 size := Nat.le_trans h.size k.size
 block b hb hn := (k.block b (Nat.lt_of_lt_of_le hb h.size) (fun hc => (h.keys b hc).elim hn (fun hs => by omega))).trans (h.block b hb hn)
 keys b hb := (k.keys b hb).elim (fun hc => h.keys b hc) (fun hs => .inr (Nat.le_trans h.size hs))
 grow b o x hx := (k.grow b o x hx).elim (fun h1 => h.grow b o x h1) (fun h1 => h1.elim (fun hs => .inr (.inl (Nat.le_trans h.size hs))) (fun hc => (h.keys b hc).elim (fun hk => .inr (.inr hk)) (fun hs => .inr (.inl hs))))
/-- Boxes may be forgotten. -/
theorem Conc.sub {M : Mem} {w : World} {σ σ' : Store} (h : Conc M w σ) (hs : σ'.Sublist σ) : Conc M w σ' :=
 ⟨h.mem, (hs.map Prod.fst).nodup h.nodup, fun b x hb => h.box b x (hs.subset hb), h.glob.of (fun _ _ _ => rfl) (fun b hb => .inl ((hs.map Prod.fst).subset hb))⟩
theorem Step.sub {M M' : Mem} {w w' : World} {σ σ' σ'' : Store} (h : Step M w σ M' w' σ') (hs : σ''.Sublist σ') : Step M w σ M' w' σ'' :=
 { h with keys := fun b hb => h.keys b ((hs.map Prod.fst).subset hb) }
end Go.Proofs.YtfjnohmdilmfhaaGreatDoor
/- Own layer, part 2: what an operation that changes no memory computes, as plain data; proved of the model's operations. -/
namespace Go.Proofs.YtfjnohmdilmfhaaGreatDoor
open Go Go.RowKit
set_option linter.unusedSimpArgs false
set_option linter.unusedVariables false
/-! ### What is known of types -/
def lsz (P : Program) (t : TypeId) : Option (Bool × Nat) :=
 match P.underlying t, P.info? t with
 | some (.struct _), some i => some (true, i.size)
 | some (.array _ _), some i => some (true, i.size)
 | some _, some i => some (false, i.size)
 | _, _ => none
/-- A struct's field: where its cells begin, whether it is an aggregate, how many cells it has. -/
def fld (P : Program) (t : TypeId) (i : Nat) : Option (Nat × Bool × Nat) :=
 match P.underlying t with
 | some (.struct fs) => match fs[i]? with
  | some f => (lsz P f.type).map fun x => (f.offset, x)
  | none => none
 | _ => none
/-- A slice's element: its type, whether it is an aggregate, its cells. -/
def sle (P : Program) (t : TypeId) : Option (TypeId × Bool × Nat) :=
 match P.underlying t with
 | some (.slice e) => (lsz P e).map fun x => (e, x)
 | _ => none
def are (P : Program) (t : TypeId) : Option (Nat × Bool × Nat) :=
 match P.underlying t with
 | some (.array n e) => (lsz P e).map fun x => (n, x)
 | _ => none
def ink (P : Program) (t : TypeId) : Option IntKind :=
 match P.underlying t with
 | some (.int k) => some k
 | _ => none
def isStrT (P : Program) (t : TypeId) : Bool := P.underlying t matches some .string
def isBoolT (P : Program) (t : TypeId) : Bool := P.underlying t matches some .bool
def isIfaceT (P : Program) (t : TypeId) : Bool := P.underlying t matches some (.interface _)
def knownT (P : Program) (t : TypeId) : Bool := (P.underlying t).isSome
theorem lsz_some {P : Program} {t : TypeId} {g : Bool} {n : Nat} (h : lsz P t = some (g, n)) :
  ∃ d i, P.underlying t = some d ∧ P.info? t = some i ∧ i.size = n ∧ g = (match d with | .struct _ | .array _ _ => true | _ => false) := by
 unfold lsz at h
 split at h
 all_goals first
  | (simp at h; done)
  | (rename_i hu hi; simp only [Option.some.injEq, Prod.mk.injEq] at h; obtain ⟨rfl, rfl⟩ := h; exact ⟨_, _, hu, hi, rfl, rfl⟩)
  | skip
 rename_i hns hna hu hi
 simp only [Option.some.injEq, Prod.mk.injEq] at h
 obtain ⟨rfl, rfl⟩ := h
 rename_i d i
 refine ⟨d, i, hu, hi, rfl, ?_⟩
 cases d <;> first | rfl | (exact absurd hu (hns _ _)) | (exact absurd hu (hna _ _ _)) | (exfalso; exact hns _ rfl) | (exfalso; exact hna _ _ rfl) | skip
section runs
variable {P : Program} {M : Mem} {w : World}
theorem run_underlying' {t : TypeId} {d : TypeDesc} (h : P.underlying t = some d) : (underlying t).run P w = .ok d w := by
 simp [underlying, h]
theorem run_typeInfo' {t : TypeId} {i : TypeInfo} (h : P.info? t = some i) : (typeInfo t).run P w = .ok i w := by
 simp [typeInfo, h]
theorem run_isAgg' {t : TypeId} {g : Bool} {n : Nat} (h : lsz P t = some (g, n)) : (isAgg t).run P w = .ok g w := by
 obtain ⟨d, i, hu, hi, _, rfl⟩ := lsz_some h
 simp only [isAgg, Sem.run_bind, run_underlying' hu, Result.andThen_ok]
 cases d <;> rfl
theorem run_sizeOf' {t : TypeId} {g : Bool} {n : Nat} (h : lsz P t = some (g, n)) : (sizeOf t).run P w = .ok n w := by
 obtain ⟨d, i, hu, hi, rfl, _⟩ := lsz_some h
 simp [sizeOf, run_typeInfo' hi]
/-- The cells at a place read as data. -/
def WCells (M : Mem) (w : World) : List D → Nat → Nat → Prop
 | [], _, _ => True
 | d :: ds, b, o => (∃ x, w.cell? ⟨b, o, none⟩ = some x ∧ R M d x) ∧ WCells M w ds b (o + 1)
theorem RCells.toW {σ : Store} (hc : Conc M w σ) : ∀ {cs : List D} {b o : Nat}, RCells M cs b o → WCells M w cs b o
 | [], _, _, _ => trivial
 | _ :: _, _, _, h => by
  simp only [RCells] at h
  obtain ⟨⟨x, h1, h2⟩, h3⟩ := h
  exact ⟨⟨x, hc.mem _ _ _ h1, h2⟩, RCells.toW hc h3⟩
theorem WCells.drop : ∀ {ds : List D} {b o : Nat} (n : Nat), WCells M w ds b o → WCells M w (ds.drop n) b (o + n)
 | [], _, _, _, _ => by simp [WCells]
 | _ :: _, _, _, 0, h => by simpa using h
 | _ :: ds, b, o, n + 1, h => by
  simp only [WCells, List.drop_succ_cons] at h ⊢
  have := WCells.drop (ds := ds) (b := b) (o := o + 1) n h.2
  rwa [show o + 1 + n = o + (n + 1) from by omega] at this
theorem WCells.of_heap {b : Nat} {T : TypeId} {fz : Nat × Nat} : ∀ {cs : List D} {vs : List Value} {pre : List Value}, w.heap[b]? = some (.cells (List.toArray (pre ++ vs)) T fz) → RAll M cs vs → WCells M w cs b pre.length
 | [], _, _, _, _ => trivial
 | d :: ds, x :: xs, pre, hw, h => by
  simp only [RAll] at h
  refine ⟨⟨x, ?_, h.1⟩, ?_⟩
  ·simp [World.cell?, hw]
  ·have := WCells.of_heap (b := b) (T := T) (fz := fz) (cs := ds) (vs := xs) (pre := pre ++ [x]) (by simpa using hw) h.2
   simpa using this
 | _ :: _, [], _, _, h => by simp [RAll] at h
theorem BoxR.wcells {b : Nat} {cs : List D} (h : BoxR M w b (.cells cs)) : WCells M w cs b 0 := by
 obtain ⟨⟨vs, T, h1, h2, _⟩, _⟩ := h
 simpa using WCells.of_heap (M := M) (w := w) (b := b) (T := T) (fz := (0, 0)) (cs := cs) (vs := vs) (pre := []) (by simpa using h1) h2
theorem addr_add (b o n : Nat) : (⟨b, o, none⟩ : Addr).add n = ⟨b, o + n, none⟩ := by
 unfold Addr.add; split <;> simp_all
theorem run_loadCellsFrom : ∀ (n : Nat) (cs : List D) (b o i : Nat) (acc : Array Value), WCells M w cs b (o + i) → n ≤ cs.length →
  ∃ vs, (loadCellsFrom ⟨b, o, none⟩ i n acc).run P w = .ok (acc ++ List.toArray vs) w ∧ RAll M (cs.take n) vs
 | 0, cs, b, o, i, acc, _, _ => ⟨[], by simp [loadCellsFrom], by simp [RAll]⟩
 | n + 1, [], _, _, _, _, _, hn => by simp at hn
 | n + 1, c :: cs, b, o, i, acc, h, hn => by
  obtain ⟨⟨x, hx, hr⟩, h2⟩ := h
  obtain ⟨vs, h3, h4⟩ := run_loadCellsFrom n cs b o (i + 1) (acc.push x) (by rwa [show o + (i + 1) = o + i + 1 from by omega]) (by simpa using hn)
  refine ⟨x :: vs, ?_, by simp only [List.take_succ_cons, RAll]; exact ⟨hr, h4⟩⟩
  simp only [loadCellsFrom, Sem.run_bind, load, Sem.run, addr_add, hx, Result.andThen_ok, h3]
  simp
theorem run_loadCells {n : Nat} {cs : List D} {b o : Nat} (h : WCells M w cs b o) (hn : n ≤ cs.length) :
  ∃ vs, (loadCells ⟨b, o, none⟩ n).run P w = .ok (List.toArray vs) w ∧ RAll M (cs.take n) vs := by
 obtain ⟨vs, h1, h2⟩ := run_loadCellsFrom (P := P) (M := M) (w := w) n cs b o 0 #[] (by simpa using h) hn
 exact ⟨vs, by simpa [loadCells] using h1, h2⟩
/-- What a load of n cells gives. -/
def ldD (g : Bool) (n : Nat) (cs : List D) : D := if g then .ag (cs.take n) else cs.headD .top
theorem run_loadVar {t : TypeId} {g : Bool} {n : Nat} {cs : List D} {b o : Nat} (ht : lsz P t = some (g, n)) (h : WCells M w cs b o) (hn : if g then n ≤ cs.length else 1 ≤ cs.length) :
  ∃ v, (loadVar t ⟨b, o, none⟩).run P w = .ok v w ∧ R M (ldD g n cs) v := by
 unfold loadVar
 simp only [Sem.run_bind, run_isAgg' ht, Result.andThen_ok]
 cases g with
 | true =>
  obtain ⟨vs, h1, h2⟩ := run_loadCells (P := P) h (by simpa using hn)
  simp only [if_true, Sem.run_bind, run_sizeOf' ht, Result.andThen_ok, h1, Sem.run_pure]
  exact ⟨_, rfl, by simp only [ldD, R, if_true]; exact ⟨vs, rfl, h2⟩⟩
 | false =>
  cases cs with
  | nil => simp at hn
  | cons c cs =>
   obtain ⟨⟨x, hx, hr⟩, _⟩ := h
   simp only [Bool.false_eq_true, if_false, load, Sem.run, hx]
   exact ⟨_, rfl, by simpa [ldD] using hr⟩
theorem run_part {t : TypeId} {g : Bool} {n : Nat} {cs : List D} {vs : List Value} {off : Nat} (ht : lsz P t = some (g, n)) (h : RAll M cs vs)
  (hn : if g then True else off < cs.length) :
  ∃ v, (part t (List.toArray vs) off).run P w = .ok v w ∧ R M (ldD g n (cs.drop off)) v := by
 unfold part
 simp only [Sem.run_bind, run_isAgg' ht, Result.andThen_ok]
 cases g with
 | true =>
  simp only [if_true, Sem.run_bind, run_sizeOf' ht, Result.andThen_ok, Sem.run_pure]
  refine ⟨_, rfl, ?_⟩
  simp only [ldD, R, if_true]
  refine ⟨(vs.drop off).take n, ?_, (h.drop off).take n⟩
  simp only [List.extract_toArray, List.extract_eq_take_drop]
  congr 3
  omega
 | false =>
  simp only [Bool.false_eq_true, if_false] at hn ⊢
  have hl := h.length
  obtain ⟨y, hy, hr⟩ := h.get (i := off) (d := cs[off]) (by simp [hn])
  have : (List.toArray vs)[off]? = some y := by simpa using hy
  rw [this]
  refine ⟨y, rfl, ?_⟩
  simp only [ldD, Bool.false_eq_true, if_false]
  rw [List.drop_eq_getElem_cons hn]
  exact hr
end runs
/-! ### Ranges of integers -/
theorem inR_wrap (k : IntKind) (n : Int) : inR k (k.wrap n) := by
 unfold inR IntKind.wrap IntKind.min IntKind.max
 cases k <;> simp [IntKind.signed, IntKind.bits] <;> (try split) <;> omega
theorem inR_iff (k : IntKind) (n : Int) : inR k n ↔ k.min ≤ n ∧ n ≤ k.max := Iff.rfl
theorem inR_i64 (n : Int) : inR .i64 n ↔ -9223372036854775808 ≤ n ∧ n ≤ 9223372036854775807 := by
 unfold inR IntKind.min IntKind.max; simp [IntKind.signed, IntKind.bits]
theorem inR_u8 (n : Int) : inR .u8 n ↔ 0 ≤ n ∧ n ≤ 255 := by
 unfold inR IntKind.min IntKind.max; simp [IntKind.signed, IntKind.bits]
theorem inR_i32 (n : Int) : inR .i32 n ↔ -2147483648 ≤ n ∧ n ≤ 2147483647 := by
 unfold inR IntKind.min IntKind.max; simp [IntKind.signed, IntKind.bits]
theorem inR_tmod {k : IntKind} {a : Int} (b : Int) (h : inR k a) : inR k (a.tmod b) := by
 have h1 : k.min ≤ 0 ∧ 0 ≤ k.max := by unfold IntKind.min IntKind.max; cases k <;> simp [IntKind.signed, IntKind.bits]
 rw [inR_iff] at h ⊢
 have hn : (a.tmod b).natAbs ≤ a.natAbs := by rw [Int.natAbs_tmod]; exact Nat.mod_le _ _
 rcases Int.le_total 0 a with ha | ha
 ·have h2 := Int.tmod_nonneg b ha
  omega
 ·have e : a.tmod b = -((-a).tmod b) := by rw [Int.neg_tmod]; omega
  have h2 := Int.tmod_nonneg b (a := -a) (by omega)
  omega
theorem inR_fdiv {k : IntKind} {a : Int} (n : Nat) (h : inR k a) : inR k (a.fdiv (2 ^ n)) := by
 have h1 : k.min ≤ 0 ∧ 0 ≤ k.max := by unfold IntKind.min IntKind.max; cases k <;> simp [IntKind.signed, IntKind.bits]
 rw [inR_iff] at h ⊢
 have hp : (1 : Int) ≤ 2 ^ n := by
  have : 0 < (2 : Int) ^ n := Int.pow_pos (by omega)
  omega
 rw [Int.fdiv_eq_ediv_of_nonneg _ (by omega)]
 rcases Int.le_total 0 a with ha | ha
 ·have h2 := Int.ediv_nonneg ha (show (0 : Int) ≤ 2 ^ n by omega)
  have h3 : a / 2 ^ n ≤ a := Int.ediv_le_self _ ha
  omega
 ·have h2 : a / 2 ^ n ≤ 0 := by
   have := Int.ediv_le_ediv (show (0 : Int) < 2 ^ n by omega) ha
   simpa using this
  have h3 : a ≤ a / 2 ^ n := by
   rw [Int.le_ediv_iff_mul_le (by omega)]
   have := Int.mul_le_mul_of_nonpos_left ha hp
   simpa using this
  omega
end Go.Proofs.YtfjnohmdilmfhaaGreatDoor
/- Own layer, part 3: what an operation that changes no memory computes, as plain data; proved of the model's operations. -/
namespace Go.Proofs.YtfjnohmdilmfhaaGreatDoor
open Go Go.RowKit
set_option linter.unusedSimpArgs false
set_option linter.unusedVariables false
abbrev PD := Prop × D
def PD.no : PD := (False, .top)
theorem R_int {M : Mem} {k : IntKind} {n : Int} (h : inR k n) : R M (.int k n) (.int k n) := by simp only [R]; exact ⟨trivial, h⟩
theorem R_bool {M : Mem} {b : Bool} : R M (.bool b) (.bool b) := by simp only [R]
theorem R_str {M : Mem} {s : List UInt8} (h : s.length ≤ lim) : R M (.str s) (.string ⟨s.toArray⟩) := by simp only [R]; exact ⟨trivial, h⟩
/-! ### Constants -/
def D.ofC : Value → D
 | .int k n => if k.min ≤ n ∧ n ≤ k.max then .int k n else .v (.int k n)
 | .bool b => .bool b
 | .string s => if s.data.toList.length ≤ 65536 then .str s.data.toList else .v (.string s)
 | .slice none 0 0 => .sl 0 [] .nil
 | x => .v x
def D.ofV : Value → D
 | .agg cs => .ag (cs.toList.map D.ofC)
 | x => D.ofC x
theorem R_ofC (M : Mem) (x : Value) : R M (D.ofC x) x := by
 unfold D.ofC
 split
 ·split
  ·rename_i h; exact R_int h
  ·simp only [R]
 ·simp only [R]
 ·rename_i s
  split
  ·rename_i h
   cases s with | mk d => cases d with | mk l => exact R_str (by have h' : l.length ≤ 65536 := h; unfold lim; omega)
  ·simp only [R]
 ·simp only [R]; exact ⟨none, 0, rfl, by simp, by simp, by simp, rfl, rfl⟩
 ·simp only [R]
theorem RAll_ofC (M : Mem) : ∀ (l : List Value), RAll M (l.map D.ofC) l
 | [] => by simp [RAll]
 | x :: l => by
  simp only [List.map_cons, RAll]
  exact ⟨R_ofC M x, RAll_ofC M l⟩
theorem R_ofV (M : Mem) (x : Value) : R M (D.ofV x) x := by
 unfold D.ofV
 split
 ·rename_i cs
  simp only [R]
  exact ⟨cs.toList, by simp, RAll_ofC M _⟩
 ·exact R_ofC M x
/-! ### Operators -/
def ibop (op : BinOp) (k : IntKind) (a b : Int) : PD :=
 match op with
 | .add => (True, .int k (k.wrap (a + b)))
 | .sub => (True, .int k (k.wrap (a - b)))
 | .mul => (True, .int k (k.wrap (a * b)))
 | .quo => (b ≠ 0, .int k (k.wrap (a.tdiv b)))
 | .rem => (b ≠ 0, .int k (a.tmod b))
 | .eql => (True, .bool (decide (a = b)))
 | .neq => (True, .bool (!decide (a = b)))
 | .lss => (True, .bool (decide (a < b)))
 | .leq => (True, .bool (decide (a ≤ b)))
 | .gtr => (True, .bool (decide (b < a)))
 | .geq => (True, .bool (decide (b ≤ a)))
 | _ => PD.no
def shop (op : BinOp) (k : IntKind) (a b : Int) : PD :=
 match op with
 | .shl => (0 ≤ b, .int k (k.wrap (a * 2 ^ (min b.toNat k.bits))))
 | .shr => (0 ≤ b, .int k (a.fdiv (2 ^ (min b.toNat k.bits))))
 | _ => PD.no
def isSh (op : BinOp) : Bool := match op with | .shl | .shr => true | _ => false
def bless (s t : List UInt8) : Bool := Op.bytesLess s t
def sbop (op : BinOp) (s t : List UInt8) : PD :=
 match op with
 | .add => (s.length + t.length ≤ lim, .str (s ++ t))
 | .eql => (True, .bool (decide (s = t)))
 | .neq => (True, .bool (!decide (s = t)))
 | .lss => (True, .bool (bless s t))
 | .leq => (True, .bool (bless s t || decide (s = t)))
 | .gtr => (True, .bool (!(bless s t || decide (s = t))))
 | .geq => (True, .bool (!bless s t))
 | _ => PD.no
def bbop (op : BinOp) (a b : Bool) : PD :=
 match op with
 | .eql => (True, .bool (a == b))
 | .neq => (True, .bool (!(a == b)))
 | _ => PD.no
/-! ### Structs compared, cell by cell -/
def deq1 (P : Program) (t : TypeId) : D → D → Option Bool
 | .int k a, .int k' b => if (ink P t).isSome = true ∧ k = k' then some (decide (a = b)) else none
 | .str s, .str u => if isStrT P t = true then some (decide (s = u)) else none
 | .bool a, .bool b => if isBoolT P t = true then some (a == b) else none
 | _, _ => none
def deqF (P : Program) : List TypeId → List D → List D → Option Bool
 | [], [], [] => some true
 | t :: ts, x :: xs, y :: ys => match deq1 P t x y, deqF P ts xs ys with
  | some a, some b => some (a && b)
  | _, _ => none
 | _, _, _ => none
def flatF (P : Program) : Nat → List Field → Bool
 | _, [] => true
 | n, f :: fs => f.offset == n && f.name != "_" && lsz P f.type == some (false, 1) && flatF P (n + 1) fs
/-- The types of a struct's fields, where each is one cell. -/
def steq (P : Program) (T : TypeId) : Option (List TypeId) :=
 match P.underlying T with
 | some (.struct fs) => if (!P.stoodInHeld T && !P.eqGuardType P.depth T && flatF P 0 fs.toList) = true then some (fs.toList.map (·.type)) else none
 | some (.array n e) => if (!P.eqGuardType P.depth T && lsz P e == some (false, 1)) = true then some (List.replicate n e) else none
 | _ => none
def agop (P : Program) (op : BinOp) (T : TypeId) (xs ys : List D) : PD :=
 match steq P T with
 | some ts => match deqF P ts xs ys with
  | some b => match op with
   | .eql => (True, .bool b)
   | .neq => (True, .bool (!b))
   | _ => PD.no
  | none => PD.no
 | none => PD.no
def bop (P : Program) (op : BinOp) (T : TypeId) (x y : D) : PD :=
 match x, y with
 | .ag xs, .ag ys => agop P op T xs ys
 | .int k a, .int k' b => if isSh op then shop op k a b else ((k = k' ∧ (ibop op k a b).1), (ibop op k a b).2)
 | .str s, .str t => sbop op s t
 | .bool a, .bool b => (isBoolT P T = true ∧ (bbop op a b).1, (bbop op a b).2)
 | _, _ => PD.no
section
variable {P : Program} {M : Mem} {w : World}
theorem ibop_sound {op : BinOp} {k : IntKind} {a b : Int} {T : TypeId} (ha : inR k a) (hs : isSh op = false) (h : (ibop op k a b).1) :
  ∃ v, (binOp op T (.int k a) (.int k b)).run P w = .ok v w ∧ R M (ibop op k a b).2 v := by
 cases op <;> simp only [isSh, Bool.true_eq_false] at hs <;> simp only [ibop, PD.no] at h ⊢ <;>
  simp only [binOp, ne_eq, not_true_eq_false, if_false, Op.intArith, Op.intDiv, Op.intCmp, Sem.run_pure]
 ·exact ⟨_, rfl, R_int (inR_wrap _ _)⟩
 ·exact ⟨_, rfl, R_int (inR_wrap _ _)⟩
 ·exact ⟨_, rfl, R_int (inR_wrap _ _)⟩
 ·rw [if_neg h]; exact ⟨_, rfl, R_int (inR_wrap _ _)⟩
 ·rw [if_neg h]; exact ⟨_, rfl, R_int (inR_tmod _ ha)⟩
 ·exact ⟨_, rfl, R_bool⟩
 ·exact ⟨_, rfl, R_bool⟩
 ·exact ⟨_, rfl, R_bool⟩
 ·exact ⟨_, rfl, R_bool⟩
 ·exact ⟨_, rfl, R_bool⟩
 ·exact ⟨_, rfl, R_bool⟩
theorem shop_sound {op : BinOp} {k k' : IntKind} {a b : Int} {T : TypeId} (ha : inR k a) (hs : isSh op = true) (h : (shop op k a b).1) :
  ∃ v, (binOp op T (.int k a) (.int k' b)).run P w = .ok v w ∧ R M (shop op k a b).2 v := by
 cases op <;> simp only [isSh, Bool.false_eq_true] at hs <;> simp only [shop] at h ⊢ <;>
  simp only [binOp, Op.shift] <;> rw [if_neg (by omega)]
 ·exact ⟨_, rfl, R_int (inR_wrap _ _)⟩
 ·exact ⟨_, rfl, R_int (inR_fdiv _ ha)⟩
theorem beq_bytes (s t : List UInt8) : (s == t) = decide (s = t) := by rw [Bool.eq_iff_iff]; simp
theorem sbop_sound {op : BinOp} {s t : List UInt8} {T : TypeId} (h : (sbop op s t).1) :
  ∃ v, (binOp op T (.string ⟨s.toArray⟩) (.string ⟨t.toArray⟩)).run P w = .ok v w ∧ R M (sbop op s t).2 v := by
 cases op <;> simp only [sbop, PD.no] at h ⊢ <;> simp only [binOp, Op.stringOp, ByteArray.toList_mk, Sem.run_pure, beq_bytes]
 ·have e : ¬ (((ByteArray.mk s.toArray).size + (ByteArray.mk t.toArray).size : Nat) : Int) > IntKind.i64.max := by
   unfold lim at h
   simp only [ByteArray.size, List.size_toArray]
   show ¬ _ > (9223372036854775807 : Int)
   omega
  rw [if_neg e, ByteArray.mk_append_mk]
  exact ⟨_, rfl, R_str (by simpa using h)⟩
 all_goals exact ⟨_, rfl, R_bool⟩
theorem run_equal_bool {T : TypeId} {a b : Bool} (hu : P.underlying T = some .bool) : (Op.equal T (.bool a) (.bool b)).run P w = .ok (a == b) w := by
 unfold Op.equal
 rw [show Op.maxDepth = 9999 + 1 from rfl, Op.equalIn]
 simp only [Sem.run_bind, run_underlying' hu, Result.andThen_ok, Sem.run_pure]
theorem bbop_sound {op : BinOp} {a b : Bool} {T : TypeId} (hT : isBoolT P T = true) (h : (bbop op a b).1) :
  ∃ v, (binOp op T (.bool a) (.bool b)).run P w = .ok v w ∧ R M (bbop op a b).2 v := by
 have hu : P.underlying T = some .bool := by
  unfold isBoolT at hT
  split at hT
  ·assumption
  ·cases hT
 cases op <;> simp only [bbop, PD.no] at h ⊢ <;>
  simp only [binOp, Sem.run_bind, run_equal_bool hu, Result.andThen_ok, Sem.run_pure]
 ·exact ⟨_, rfl, R_bool⟩
 ·exact ⟨_, rfl, R_bool⟩
theorem deq1_sound {t : TypeId} {x y : D} {a b : Value} {d : Nat} {r : Bool} (h : deq1 P t x y = some r) (hx : R M x a) (hy : R M y b) : (Op.equalIn (d + 1) t a b).run P w = .ok r w := by
 unfold deq1 at h
 split at h
 ·rename_i k a' k' b'
  simp only [R] at hx hy
  obtain ⟨rfl, _⟩ := hx
  obtain ⟨rfl, _⟩ := hy
  split at h
  ·rename_i hk
   obtain ⟨hk, rfl⟩ := hk
   cases h
   unfold ink at hk
   split at hk
   ·rename_i k' hu
    rw [run_equalIn_int w d t k k' a' b' hu, show (a' == b') = decide (a' = b') from rfl]
   ·cases hk
  ·cases h
 ·rename_i s u
  simp only [R] at hx hy
  obtain ⟨rfl, _⟩ := hx
  obtain ⟨rfl, _⟩ := hy
  split at h
  ·rename_i hk
   cases h
   have hu : P.underlying t = some .string := by
    unfold isStrT at hk
    split at hk
    ·assumption
    ·cases hk
   rw [run_equalIn_string w d t _ _ hu]
   simp only [ByteArray.toList_mk, beq_bytes]
  ·cases h
 ·rename_i a' b'
  simp only [R] at hx hy
  subst hx; subst hy
  split at h
  ·rename_i hk
   cases h
   have hu : P.underlying t = some .bool := by
    unfold isBoolT at hk
    split at hk
    ·assumption
    ·cases hk
   rw [run_equalIn_bool' w d t _ _ hu]
  ·cases h
 ·cases h
theorem deqF_sound {d : Nat} {xs ys : List D} {vs us : List Value} (hv : RAll M xs vs) (hu : RAll M ys us) : ∀ (fs : List Field) (n : Nat) (r : Bool), flatF P n fs = true → deqF P (fs.map (·.type)) (xs.drop n) (ys.drop n) = some r →
  (Op.eqFields (d + 1) (List.toArray vs) (List.toArray us) fs).run P w = .ok r w
 | [], n, r, _, h => by
  rw [List.map_nil] at h
  generalize xs.drop n = a at h
  generalize ys.drop n = b at h
  cases a <;> cases b <;> simp [deqF] at h
  subst h
  rfl
 | f :: fs, n, r, hf, h => by
  simp only [flatF, Bool.and_eq_true, beq_iff_eq, bne_iff_ne, ne_eq] at hf
  obtain ⟨⟨⟨ho, hn⟩, hl⟩, hf⟩ := hf
  cases hxs : xs.drop n with
  | nil => rw [hxs] at h; simp [deqF] at h
  | cons x xs' =>
   cases hys : ys.drop n with
   | nil => rw [hxs, hys] at h; simp [deqF] at h
   | cons y ys' =>
    rw [hxs, hys] at h
    simp only [List.map_cons, deqF] at h
    split at h
    ·rename_i a b h1 h2
     cases h
     have lx : n < xs.length := by
      rcases Nat.lt_or_ge n xs.length with h | h
      ·exact h
      ·rw [List.drop_eq_nil_of_le h] at hxs; cases hxs
     have ly : n < ys.length := by
      rcases Nat.lt_or_ge n ys.length with h | h
      ·exact h
      ·rw [List.drop_eq_nil_of_le h] at hys; cases hys
     obtain ⟨v1, p1, r1⟩ := run_part (P := P) (w := w) (off := f.offset) hl hv (by simpa [ho] using lx)
     obtain ⟨v2, p2, r2⟩ := run_part (P := P) (w := w) (off := f.offset) hl hu (by simpa [ho] using ly)
     rw [ho, hxs] at r1
     rw [ho, hys] at r2
     simp only [ldD, Bool.false_eq_true, if_false, List.headD_cons] at r1 r2
     have e := deq1_sound (w := w) (d := d) h1 r1 r2
     have ex : xs' = xs.drop (n + 1) := by rw [← List.drop_drop, hxs]; rfl
     have ey : ys' = ys.drop (n + 1) := by rw [← List.drop_drop, hys]; rfl
     rw [ex, ey] at h2
     have ih := deqF_sound (d := d) hv hu fs (n + 1) b hf h2
     simp only [Op.eqFields, ne_eq, hn, not_false_eq_true, if_true, Sem.run_bind, p1, p2, Result.andThen_ok, e]
     cases a
     ·simp only [Bool.not_false, if_true, Sem.run_pure, Bool.false_and]
     ·simp only [Bool.not_true, Bool.false_eq_true, if_false, ih, Bool.true_and]
    ·cases h
theorem deqR_sound {d : Nat} {e : TypeId} {xs ys : List D} {vs us : List Value} (hl : lsz P e = some (false, 1)) (hv : RAll M xs vs) (hu : RAll M ys us) : ∀ (k n : Nat) (r : Bool), deqF P (List.replicate k e) (xs.drop n) (ys.drop n) = some r →
  ∃ x : Option Bool × Unit, (forIn (List.range' n k) ((none, ()) : Option Bool × Unit) fun i _ => do
    if !(← Op.equalIn (d + 1) e (← part e (List.toArray vs) (i * 1)) (← part e (List.toArray us) (i * 1))) then pure (.done (some false, ())) else pure (.yield (none, ())) : Sem (Option Bool × Unit)).run P w = .ok x w ∧ x.fst = (if r = true then none else some false)
 | 0, n, r, h => by
  generalize xs.drop n = a at h
  generalize ys.drop n = b at h
  cases a <;> cases b <;> simp [deqF] at h
  subst h
  exact ⟨_, rfl, rfl⟩
 | k + 1, n, r, h => by
  rw [List.replicate_succ] at h
  cases hxs : xs.drop n with
  | nil => rw [hxs] at h; simp [deqF] at h
  | cons x xs' =>
   cases hys : ys.drop n with
   | nil => rw [hxs, hys] at h; simp [deqF] at h
   | cons y ys' =>
    rw [hxs, hys] at h
    simp only [deqF] at h
    split at h
    ·rename_i a b h1 h2
     cases h
     have lx : n < xs.length := by
      rcases Nat.lt_or_ge n xs.length with h | h
      ·exact h
      ·rw [List.drop_eq_nil_of_le h] at hxs; cases hxs
     have ly : n < ys.length := by
      rcases Nat.lt_or_ge n ys.length with h | h
      ·exact h
      ·rw [List.drop_eq_nil_of_le h] at hys; cases hys
     obtain ⟨v1, p1, r1⟩ := run_part (P := P) (w := w) (off := n) hl hv (by simpa using lx)
     obtain ⟨v2, p2, r2⟩ := run_part (P := P) (w := w) (off := n) hl hu (by simpa using ly)
     rw [hxs] at r1
     rw [hys] at r2
     simp only [ldD, Bool.false_eq_true, if_false, List.headD_cons] at r1 r2
     have e := deq1_sound (w := w) (d := d) h1 r1 r2
     have ex : xs' = xs.drop (n + 1) := by rw [← List.drop_drop, hxs]; rfl
     have ey : ys' = ys.drop (n + 1) := by rw [← List.drop_drop, hys]; rfl
     rw [ex, ey] at h2
     obtain ⟨z, ih1, ih2⟩ := deqR_sound (d := d) hl hv hu k (n + 1) b h2
     rw [List.range'_succ, List.forIn_cons]
     simp only [Sem.run_bind, Nat.mul_one, p1, p2, Result.andThen_ok, e]
     cases a
     ·simp only [Bool.not_false, if_true, Sem.run_pure, Sem.run_bind, Result.andThen_ok, Bool.false_and]
      exact ⟨_, rfl, rfl⟩
     ·simp only [Bool.not_true, Bool.false_eq_true, if_false, Sem.run_pure, Sem.run_bind, Result.andThen_ok, Bool.true_and]
      simp only [Nat.mul_one] at ih1
      exact ⟨z, ih1, ih2⟩
    ·cases h
theorem deqA_sound {d n : Nat} {T e : TypeId} {xs ys : List D} {vs us : List Value} {r : Bool} (hT : P.underlying T = some (.array n e)) (hl : lsz P e = some (false, 1)) (hv : RAll M xs vs) (hu : RAll M ys us) (h : deqF P (List.replicate n e) xs ys = some r) :
  (Op.equalIn (d + 2) T (.agg (List.toArray vs)) (.agg (List.toArray us))).run P w = .ok r w := by
 obtain ⟨x, h1, h2⟩ := deqR_sound (P := P) (w := w) (d := d) hl hv hu n 0 r (by simpa using h)
 rw [Op.equalIn]
 simp only [Sem.run_bind, run_underlying' hT, Result.andThen_ok, run_sizeOf' hl, Std.Legacy.Range.forIn_eq_forIn_range', Std.Legacy.Range.size, Nat.sub_zero, Nat.add_sub_cancel, Nat.div_one]
 rw [h1]
 simp only [Result.andThen_ok, h2]
 cases r <;> rfl
theorem agop_sound {op : BinOp} {T : TypeId} {xs ys : List D} {a b : Value} {ox oy : Operand} (h : (agop P op T xs ys).1) (hx : R M (.ag xs) a) (hy : R M (.ag ys) b) :
  ∃ v, (do eqGuard op T ox oy a b; binOp op T a b : Sem Value).run P w = .ok v w ∧ R M (agop P op T xs ys).2 v := by
 simp only [R] at hx hy
 obtain ⟨vs, rfl, hv⟩ := hx
 obtain ⟨us, rfl, hu⟩ := hy
 unfold agop at h ⊢
 split at h
 ·rename_i ts hs
  split at h
  ·rename_i r hr
   unfold steq at hs
   split at hs
   ·rename_i fs hT
    split at hs
    ·rename_i hc
     cases hs
     simp only [Bool.and_eq_true, Bool.not_eq_true'] at hc
     obtain ⟨⟨h1, h2⟩, h3⟩ := hc
     have hT' : P.underlying T = some (.struct (P.fieldsOf T)) := by unfold Program.fieldsOf; rw [hT]
     have e : (Op.equalIn 10000 T (.agg (List.toArray vs)) (.agg (List.toArray us))).run P w = .ok r w := by
      rw [run_equalIn_agg w 9999 T _ _ hT' h1]
      have e2 : P.fieldsOf T = fs := by unfold Program.fieldsOf; rw [hT]
      rw [e2]
      exact deqF_sound (d := 9998) hv hu fs.toList 0 r h3 (by simpa using hr)
     simp only [Sem.run_bind, run_eqGuard_agg w op T ox oy _ _ h2, Result.andThen_ok]
     cases op <;> first | exact h.elim | (rw [run_eql_struct, e]; exact ⟨_, rfl, R_bool⟩) | (rw [run_neq_struct, e]; exact ⟨_, rfl, R_bool⟩)
    ·cases hs
   ·rename_i n el hT
    split at hs
    ·rename_i hc
     cases hs
     simp only [Bool.and_eq_true, Bool.not_eq_true', beq_iff_eq] at hc
     obtain ⟨h2, h3⟩ := hc
     have e := deqA_sound (w := w) (d := 9998) hT h3 hv hu hr
     simp only [Sem.run_bind, run_eqGuard_agg w op T ox oy _ _ h2, Result.andThen_ok]
     cases op <;> first | exact h.elim | (rw [run_eql_struct, e]; exact ⟨_, rfl, R_bool⟩) | (rw [run_neq_struct, e]; exact ⟨_, rfl, R_bool⟩)
    ·cases hs
   ·cases hs
  ·exact h.elim
 ·exact h.elim
theorem bop_sound {op : BinOp} {T : TypeId} {x y : D} {a b : Value} {ox oy : Operand} (h : (bop P op T x y).1) (hx : R M x a) (hy : R M y b) :
  ∃ v, (do eqGuard op T ox oy a b; binOp op T a b : Sem Value).run P w = .ok v w ∧ R M (bop P op T x y).2 v := by
 unfold bop at h ⊢
 split
 ·exact agop_sound h hx hy
 ·rename_i k a' k' b'
  simp only [R] at hx hy
  obtain ⟨rfl, ha⟩ := hx
  obtain ⟨rfl, _⟩ := hy
  have hg : (eqGuard op T ox oy (.int k a') (.int k' b')).run P w = .ok () w := by unfold eqGuard; split <;> rfl
  simp only [Sem.run_bind, hg, Result.andThen_ok]
  cases hs : isSh op with
  | true =>
   simp only [hs, if_true] at h ⊢
   exact shop_sound ha hs h
  | false =>
   simp only [hs, Bool.false_eq_true, if_false] at h ⊢
   obtain ⟨rfl, h⟩ := h
   exact ibop_sound ha hs h
 ·rename_i s t
  simp only [R] at hx hy
  obtain ⟨rfl, _⟩ := hx
  obtain ⟨rfl, _⟩ := hy
  have hg : (eqGuard op T ox oy (.string ⟨s.toArray⟩) (.string ⟨t.toArray⟩)).run P w = .ok () w := by unfold eqGuard; split <;> rfl
  simp only [Sem.run_bind, hg, Result.andThen_ok]
  exact sbop_sound h
 ·rename_i s t
  simp only [R] at hx hy
  subst hx; subst hy
  have hg : (eqGuard op T ox oy (.bool s) (.bool t)).run P w = .ok () w := by unfold eqGuard; split <;> rfl
  simp only [Sem.run_bind, hg, Result.andThen_ok]
  exact bbop_sound h.1 h.2
 ·rename_i h0 h1 h2 h3
  split at h
  ·exact absurd rfl (h0 _ _ rfl)
  ·exact absurd rfl (h1 _ _ _ _ rfl)
  ·exact absurd rfl (h2 _ _ rfl)
  ·exact absurd rfl (h3 _ _ rfl)
  ·exact h.elim
end
/-! ### Guarded values -/
def D.core : D → D
 | .cnd _ d => d
 | d => d
def D.cg : D → Bool
 | .cnd g _ => g
 | _ => true
theorem R.core {M : Mem} {d : D} {y : Value} (h : R M d y) (hg : d.cg = true) : R M d.core y := by
 cases d <;> try exact h
 simp only [R] at h
 exact h.1 hg
def isB (d : D) : Prop := match d.core with
 | .bool _ => True
 | _ => False
def bof (d : D) : Bool := match d.core with
 | .bool p => p
 | _ => false
def qpick (c a b : D) : PD :=
 match c with
 | .bool t => ((t = true → a.cg = true ∧ isB a) ∧ (t = false → b.cg = true ∧ isB b), .bool (bif t then bof a else bof b))
 | _ => PD.no
def quop (op : UnOp) (x : D) : PD :=
 match op, x with
 | .not, .bool b => (True, .bool (!b))
 | .neg, .int k n => (True, .int k (k.wrap (0 - n)))
 | _, _ => PD.no
def rowByte : List D → Option UInt8
 | [.int .u8 n] => some (UInt8.ofNat n.toNat)
 | _ => none
def rowsBytes : List (List D) → Option (List UInt8)
 | [] => some []
 | r :: rs => match rowByte r, rowsBytes rs with
  | some b, some bs => some (b :: bs)
  | _, _ => none
def qconv (P : Program) (σ : Store) (s d : TypeId) (x : D) : PD :=
 match x with
 | .arr b sz n _ => match σ.get b with
  | some (.arr sz' rows _) => match sle P s, rowsBytes rows with
   | some (e, _, m), some bs => (ink P e = some .u8 ∧ isStrT P d = true ∧ m = 1 ∧ sz = 1 ∧ sz' = 1 ∧ n = rows.length ∧ rows.length ≤ lim, .str bs)
   | _, _ => PD.no
  | _ => PD.no
 | .int _ n => match ink P d with
  | some k => (knownT P s = true, .int k (k.wrap n))
  | none => PD.no
 | .str l => (knownT P s = true ∧ isStrT P d = true, .str l)
 | .sl _ rows _ => match sle P s, rowsBytes rows with
  | some (e, _, n), some bs => (ink P e = some .u8 ∧ isStrT P d = true ∧ n = 1, .str bs)
  | _, _ => PD.no
 | _ => PD.no
def qfield (P : Program) (T : TypeId) (i : Nat) (x : D) : PD :=
 match fld P T i, x with
 | some (off, g, n), .ag cs => (off + n ≤ cs.length ∧ 0 < n, ldD g n (cs.drop off))
 | _, _ => PD.no
def qfaddr (P : Program) (T : TypeId) (i : Nat) (x : D) : PD :=
 match fld P T i, x with
 | some (off, _, n), .el cs => (0 < n, .el (cs.drop off))
 | some (off, _, n), .ptr b o => (0 < n, .ptr b (o + off))
 | _, _ => PD.no
def rowAt (rows : List (List D)) (i : Nat) : List D := rows.getD i []
def qiaddr (P : Program) (T : TypeId) (x i : D) : PD :=
 match x, i with
 | .sl sz rows _, .int _ n => match sle P T with
  | some (_, _, s) => ((0 ≤ n ∧ n < rows.length) ∧ sz = s, .el (rowAt rows n.toNat))
  | none => PD.no
 | .arr b sz l _, .int _ n => match sle P T with
  | some (_, _, s) => ((0 ≤ n ∧ n < l) ∧ sz = s, .ptr b (n.toNat * s))
  | none => PD.no
 | .ptr b o, .int _ n => match are P T with
  | some (l, _, s) => (0 ≤ n ∧ n < l, .ptr b (o + n.toNat * s))
  | none => PD.no
 | .el cs, .int _ n => match are P T with
  | some (l, _, s) => (0 ≤ n ∧ n < l, .el (cs.drop (n.toNat * s)))
  | none => PD.no
 | _, _ => PD.no
def qindex (P : Program) (T : TypeId) (x i : D) : PD :=
 match x, i with
 | .str s, .int _ n => (isStrT P T = true ∧ 0 ≤ n ∧ n < s.length, .int .u8 ((s.getD n.toNat 0).toNat : Int))
 | .ag cs, .int _ n => match are P T with
  | some (l, g, s) => (0 ≤ n ∧ n < l ∧ n.toNat * s + s ≤ cs.length ∧ 0 < s, ldD g s (cs.drop (n.toNat * s)))
  | none => PD.no
 | _, _ => PD.no
def ldC (g : Bool) (n : Nat) (cs : List D) : PD := (n ≤ cs.length ∧ 0 < n, ldD g n cs)
def boxCells (σ : Store) (b : Nat) : Option (List D) :=
 match σ.get b with
 | some (.cells cs) => some cs
 | some (.arr _ rows _) => some rows.flatten
 | _ => none
def qload (P : Program) (σ : Store) (T : TypeId) (x : D) : PD :=
 match lsz P T, x with
 | some (g, n), .el cs => ldC g n cs
 | some (g, n), .ptr b o => match boxCells σ b with
  | some cs => ldC g n (cs.drop o)
  | none => PD.no
 | _, _ => PD.no
/-! ### Maps -/
def mpt (P : Program) (T : TypeId) : Option (TypeId × TypeId) :=
 match P.underlying T with
 | some (.map k e) => some (k, e)
 | _ => none
/-- A key that is compared at once. -/
def keyOK (P : Program) (k : TypeId) : D → Bool
 | .int _ _ => (ink P k).isSome
 | .str _ => isStrT P k
 | _ => false
def keqD : D → D → Option Bool
 | .int k a, .int k' b => if k = k' then some (decide (a = b)) else none
 | .str s, .str t => some (decide (s = t))
 | _, _ => none
def mget (k : D) : List (D × D) → Option (Option D)
 | [] => some none
 | e :: es => match keqD k e.1 with
  | some true => some (some e.2)
  | some false => mget k es
  | none => none
def mput (k v : D) : List (D × D) → Option (List (D × D))
 | [] => some [(k, v)]
 | e :: es => match keqD k e.1 with
  | some true => some ((k, v) :: es)
  | some false => (mput k v es).map fun l => e :: l
  | none => none
def zval (P : Program) (T : TypeId) : Option D := ((P.info? T).bind (·.zero)).map D.ofV
def ments (σ : Store) : D → Option (List (D × D))
 | .mp b => match σ.get b with
  | some (.map es) => some es
  | _ => none
 | .v (.map none) => some []
 | _ => none
def lookD (ok : Bool) (z : D) (r : Option D) : D := if ok = true then .tup [r.getD z, .bool r.isSome] else r.getD z
def qlook (P : Program) (σ : Store) (T : TypeId) (x i : D) (ok : Bool) : PD :=
 match mpt P T, ments σ x with
 | some (k, e), some es => match mget i es, zval P e with
  | some r, some z => (keyOK P k i = true, lookD ok z r)
  | _, _ => PD.no
 | _, _ => PD.no
def qextract (x : D) (i : Nat) : PD :=
 match x with
 | .tup ds => match ds[i]? with
  | some d => (True, d)
  | none => PD.no
 | _ => PD.no
def qiface (P : Program) (T : TypeId) (x : D) : PD := (knownT P T = true ∧ isIfaceT P T = false, .ifc T x)
def ob (x : Option D) (dflt : Nat) : Option Int :=
 match x with
 | none => some dflt
 | some (.int _ n) => some n
 | some _ => none
def chunk (sz : Nat) : Nat → List D → List (List D)
 | 0, _ => []
 | n + 1, cs => cs.take sz :: chunk sz n (cs.drop sz)
def qslice (P : Program) (T : TypeId) (x : D) (lo hi mx : Option D) : PD :=
 match x with
 | .str s => match ob lo 0, ob hi s.length, mx with
  | some l, some h, none => (isStrT P T = true ∧ 0 ≤ l ∧ l ≤ h ∧ h ≤ s.length, .str ((s.take h.toNat).drop l.toNat))
  | _, _, _ => PD.no
 | .arr b sz n cap => match sle P T, ob lo 0, ob hi n, mx with
  | some (_, _, s), some l, some h, none => if l = 0 then (0 ≤ h ∧ h ≤ cap, .arr b sz h.toNat cap) else (sz = s ∧ 0 < l ∧ l ≤ h ∧ h ≤ cap ∧ l < cap, .v (.slice (some ⟨b, l.toNat * s, none⟩) (h.toNat - l.toNat) (cap - l.toNat)))
  | _, _, _, _ => PD.no
 | .sl sz rows t => match sle P T, ob lo 0, ob hi rows.length, mx with
  | some (_, _, s), some l, some h, none => ((rows = [] ∨ sz = s) ∧ 0 ≤ l ∧ l ≤ h ∧ h ≤ rows.length, .sl sz ((rows.take h.toNat).drop l.toNat) (if l = 0 ∧ h = rows.length then t else .no))
  | some (_, _, s), some l, some h, some (.int _ m) => ((rows = [] ∨ sz = s) ∧ 0 ≤ l ∧ l ≤ h ∧ m = h ∧ h ≤ rows.length ∧ hi.isSome = true, .sl sz ((rows.take h.toNat).drop l.toNat) .full)
  | _, _, _, _ => PD.no
 | .el cs => match are P T with
  | some (n, _, s) => match ob lo 0, ob hi n, mx with
   | some l, some h, none => (0 ≤ l ∧ l ≤ h ∧ h ≤ n ∧ l < n ∧ n * s ≤ cs.length ∧ n ≤ lim, .sl s (((chunk s n cs).take h.toNat).drop l.toNat) (if h = n then .full else .no))
   | _, _, _ => PD.no
  | none => PD.no
 | .ptr b o => match are P T with
  | some (n, _, s) => match ob lo 0, ob hi n, mx with
   | some l, some h, none => (0 ≤ l ∧ l ≤ h ∧ h ≤ n ∧ l < n, .v (.slice (some ⟨b, o + l.toNat * s, none⟩) (h.toNat - l.toNat) (n - l.toNat)))
   | _, _, _ => PD.no
  | none => PD.no
 | _ => PD.no
/-- A slice as an array. -/
def qsap (P : Program) (T : TypeId) (x : D) : PD :=
 match x with
 | .sl s rows _ => match are P T with
  | some (n, _, m) => (m = s ∧ n ≤ rows.length ∧ rows ≠ [], .el rows.flatten)
  | none => PD.no
 | _ => PD.no
def mnI (a b : Int) : Int := if b < a then b else a
def mxI (a b : Int) : Int := if b > a then b else a
def foldI (f : Int → Int → Int) (k : IntKind) : Int → List D → Option Int
 | a, [] => some a
 | a, .int k' n :: ds => if k' = k then foldI f k (f a n) ds else none
 | _, _ => none
def qbuiltin (P : Program) (σ : Store) (b : Builtin) (ts : Array TypeId) (xs : List D) : PD :=
 match b, xs with
 | .len, [.str s] => (∃ t, ts[0]? = some t ∧ isStrT P t = true, .int .i64 s.length)
 | .len, [.sl _ rows _] => (∃ t, ts[0]? = some t ∧ (sle P t).isSome = true, .int .i64 rows.length)
 | .len, [.arr _ _ n _] => (∃ t, ts[0]? = some t ∧ (sle P t).isSome = true ∧ n ≤ lim, .int .i64 n)
 | .cap, [.sl _ rows .full] => (∃ t, ts[0]? = some t ∧ (sle P t).isSome = true, .int .i64 rows.length)
 | .cap, [.sl _ _ .nil] => (∃ t, ts[0]? = some t ∧ (sle P t).isSome = true, .int .i64 0)
 | .cap, [.arr _ _ _ c] => (∃ t, ts[0]? = some t ∧ (sle P t).isSome = true ∧ c ≤ lim, .int .i64 c)
 | .min, .int k a :: ds => match foldI mnI k a ds with
  | some n => (True, .int k n)
  | none => PD.no
 | .max, .int k a :: ds => match foldI mxI k a ds with
  | some n => (True, .int k n)
  | none => PD.no
 | _, _ => PD.no
/-- Zero cells and the places of the parts of a struct or an array. -/
def zp (P : Program) (T : TypeId) : Option (List D × List (Nat × Nat)) :=
 match (P.info? T).bind (·.zero), P.underlying T with
 | some z, some (.struct fs) =>
  match fs.toList.mapM (fun f => (lsz P f.type).map fun x => (f.offset, x.2)) with
  | some pl => some (z.cells.toList.map D.ofC, pl)
  | none => none
 | some z, some (.array n e) =>
  match lsz P e with
  | some x => some (z.cells.toList.map D.ofC, (List.range n).map fun i => (i * x.2, x.2))
  | none => none
 | _, _ => none
def putCells (cs : List D) (off : Nat) (ds : List D) : List D := cs.take off ++ ds ++ cs.drop (off + ds.length)
def fillD (pl : List (Nat × Nat)) : List D → List (Nat × D) → Option (List D)
 | cs, [] => some cs
 | cs, (i, d) :: rest => match pl[i]? with
  | some (off, n) => if d.cellsOf.length = n ∧ off + n ≤ cs.length then fillD pl (putCells cs off d.cellsOf) rest else none
  | none => none
def D.flat (d : D) : Bool :=
 match d with
 | .ag _ => true
 | d => d.isCell
def qbuild (P : Program) (T : TypeId) (parts : List (Nat × D)) : PD :=
 match zp P T with
 | some (z, pl) => match fillD pl z parts with
  | some cs => (parts.all (·.2.flat) = true, .ag cs)
  | none => PD.no
 | none => PD.no
def qnil (x : D) : PD :=
 match x with
 | .ptr b o => (True, .ptr b o)
 | .el cs => (True, .el cs)
 | .fn (.func f) fs cs => (True, .fn (.func f) fs cs)
 | .fn (.yield l) fs cs => (True, .fn (.yield l) fs cs)
 | _ => PD.no
def qev (P : Program) (σ : Store) (ρ : Operand → D) : Op → PD
 | .move x | .assign x => (True, ρ x)
 | .pick c a b => qpick (ρ c) (ρ a) (ρ b)
 | .binOp op T x y _ => bop P op T (ρ x) (ρ y)
 | .unOp op _ x => quop op (ρ x)
 | .convert s d x => qconv P σ s d (ρ x)
 | .field T x i => qfield P T i (ρ x)
 | .fieldAddr T x i => qfaddr P T i (ρ x)
 | .indexAddr T x i => qiaddr P T (ρ x) (ρ i)
 | .index T x i => qindex P T (ρ x) (ρ i)
 | .load T a => qload P σ T (ρ a)
 | .lookup T x i ok => qlook P σ T (ρ x) (ρ i) ok
 | .extract x i => qextract (ρ x) i
 | .build T parts => qbuild P T (parts.toList.map fun p => (p.1, ρ p.2))
 | .makeInterface T x => qiface P T (ρ x)
 | .makeFunc f fs cs => (True, .fn f (fs.toList.map ρ) (cs.toList.map ρ))
 | .slice T x lo hi mx => qslice P T (ρ x) (lo.map ρ) (hi.map ρ) (mx.map ρ)
 | .nilCheck x => qnil (ρ x)
 | .sliceToArrayPointer T x => qsap P T (ρ x)
 | .call { callee := .builtin b, args := xs, argTypes := ts } => qbuiltin P σ b ts (xs.toList.map ρ)
 | _ => PD.no
end Go.Proofs.YtfjnohmdilmfhaaGreatDoor
/- Own layer, part 4: the plain-data reading of quiet operations is right. -/
namespace Go.Proofs.YtfjnohmdilmfhaaGreatDoor
open Go Go.RowKit
set_option linter.unusedSimpArgs false
set_option linter.unusedVariables false
section
variable {P : Program} {M : Mem} {w : World} {σ : Store}
theorem isStrT_iff {t : TypeId} (h : isStrT P t = true) : P.underlying t = some .string := by
 unfold isStrT at h; split at h
 ·assumption
 ·cases h
theorem ink_some {t : TypeId} {k : IntKind} (h : ink P t = some k) : P.underlying t = some (.int k) := by
 unfold ink at h; split at h
 ·rename_i hu; cases h; exact hu
 ·cases h
theorem knownT_some {t : TypeId} (h : knownT P t = true) : ∃ d, P.underlying t = some d := Option.isSome_iff_exists.1 h
theorem sle_some {t e : TypeId} {g : Bool} {n : Nat} (h : sle P t = some (e, g, n)) : P.underlying t = some (.slice e) ∧ lsz P e = some (g, n) := by
 unfold sle at h; split at h
 ·rename_i e' hu
  simp only [Option.map_eq_some_iff, Prod.mk.injEq] at h
  obtain ⟨⟨g', n'⟩, h1, rfl, h2⟩ := h
  cases h2
  exact ⟨hu, h1⟩
 ·cases h
theorem are_some {t : TypeId} {l : Nat} {g : Bool} {n : Nat} (h : are P t = some (l, g, n)) : ∃ e, P.underlying t = some (.array l e) ∧ lsz P e = some (g, n) := by
 unfold are at h; split at h
 ·rename_i m e' hu
  simp only [Option.map_eq_some_iff, Prod.mk.injEq] at h
  obtain ⟨⟨g', n'⟩, h1, rfl, h2⟩ := h
  cases h2
  exact ⟨e', hu, h1⟩
 ·cases h
theorem fld_some {t : TypeId} {i off : Nat} {g : Bool} {n : Nat} (h : fld P t i = some (off, g, n)) : ∃ fs f, P.underlying t = some (.struct fs) ∧ fs[i]? = some f ∧ f.offset = off ∧ lsz P f.type = some (g, n) := by
 unfold fld at h; split at h
 ·rename_i fs hu
  split at h
  ·rename_i f hf
   simp only [Option.map_eq_some_iff, Prod.mk.injEq] at h
   obtain ⟨⟨g', n'⟩, h1, rfl, h2⟩ := h
   cases h2
   exact ⟨fs, f, hu, hf, rfl, h1⟩
  ·cases h
 ·cases h
theorem R_bof {d : D} {y : Value} (h : d.cg = true ∧ isB d) (hr : R M d y) : R M (.bool (bof d)) y := by
 have h1 := hr.core h.1
 have h2 := h.2
 unfold isB at h2
 unfold bof
 split at h2
 ·rename_i p e; simp only [e] at h1 ⊢; exact h1
 ·exact h2.elim
theorem pick_sound {c a b : D} {x y z : Value} (h : (qpick c a b).1) (hc : R M c x) (ha : R M a y) (hb : R M b z) :
  ∃ v, (do pure (.value (if ← asBool x then y else z)) : Sem Next).run P w = .ok (.value v) w ∧ R M (qpick c a b).2 v := by
 unfold qpick at h ⊢
 split at h
 ·rename_i t
  simp only [R] at hc
  subst hc
  simp only [asBool, Sem.run_bind, Sem.run_pure, Result.andThen_ok]
  cases t
  ·exact ⟨_, rfl, R_bof (h.2 rfl) hb⟩
  ·exact ⟨_, rfl, R_bof (h.1 rfl) ha⟩
 ·exact h.elim
theorem uop_sound {op : UnOp} {x : D} {a : Value} (h : (quop op x).1) (hx : R M x a) :
  ∃ v, (Op.unary op a).run P w = .ok v w ∧ R M (quop op x).2 v := by
 unfold quop at h ⊢
 split at h
 ·simp only [R] at hx; subst hx
  exact ⟨_, rfl, R_bool⟩
 ·simp only [R] at hx; obtain ⟨rfl, _⟩ := hx
  exact ⟨_, rfl, R_int (inR_wrap _ _)⟩
 ·exact h.elim
theorem rowByte_R {r : List D} {b : UInt8} {blk o : Nat} (h : rowByte r = some b) (hr : WCells M w r blk o) : r.length = 1 ∧ w.cell? ⟨blk, o, none⟩ = some (.int .u8 b.toNat) := by
 unfold rowByte at h
 split at h
 ·rename_i n
  cases h
  obtain ⟨⟨x, h1, h2⟩, _⟩ := hr
  simp only [R] at h2
  obtain ⟨rfl, hn⟩ := h2
  rw [inR_u8] at hn
  refine ⟨rfl, ?_⟩
  rw [h1]
  congr 2
  simp only [UInt8.toNat_ofNat']
  omega
 ·cases h
theorem rowsBytes_get : ∀ {rows : List (List D)} {bs : List UInt8}, rowsBytes rows = some bs → rows.length = bs.length ∧ ∀ i r, rows[i]? = some r → rowByte r = some (bs.getD i 0)
 | [], bs, h => by simp only [rowsBytes] at h; cases h; simp
 | r :: rs, bs, h => by
  simp only [rowsBytes] at h
  split at h
  ·rename_i c cs h1 h2
   cases h
   have ih := rowsBytes_get h2
   refine ⟨by simp [ih.1], fun i r' hr => ?_⟩
   cases i with
   | zero => simp at hr; subst hr; simpa using h1
   | succ i => simpa using ih.2 i r' (by simpa using hr)
  ·cases h
theorem field_sound {T : TypeId} {i : Nat} {x : D} {a : Value} (h : (qfield P T i x).1) (hx : R M x a) :
  ∃ v, (Instr.field T a i).run P w = .ok v w ∧ R M (qfield P T i x).2 v := by
 unfold qfield at h ⊢
 split at h
 ·rename_i off g n cs hf
  obtain ⟨fs, f, hu, hfi, rfl, hz⟩ := fld_some hf
  obtain ⟨h1, h2⟩ := h
  simp only [R] at hx
  obtain ⟨vs, rfl, hv⟩ := hx
  simp only [Instr.field, Sem.run_bind, run_underlying' hu, Result.andThen_ok, hfi, asAgg, Sem.run_pure]
  exact run_part hz hv (by split <;> first | trivial | omega)
 ·exact h.elim
theorem sizeOf_ne {f : Field} {g : Bool} {n : Nat} (hz : lsz P f.type = some (g, n)) (hn : 0 < n) (b o : Nat) :
  (fieldPlace ⟨b, o, none⟩ f).run P w = .ok ⟨b, o + f.offset, none⟩ w := by
 unfold fieldPlace
 simp only [Sem.run_bind, run_sizeOf' hz, Result.andThen_ok]
 rw [if_neg (by omega), addr_add]
 rfl
theorem faddr_sound {T : TypeId} {i : Nat} {x : D} {a : Value} (h : (qfaddr P T i x).1) (hx : R M x a) :
  ∃ v, (Instr.fieldAt T a i).run P w = .ok v w ∧ R M (qfaddr P T i x).2 v := by
 unfold qfaddr at h ⊢
 split at h
 ·rename_i off g n cs hf
  obtain ⟨fs, f, hu, hfi, rfl, hz⟩ := fld_some hf
  simp only [R] at hx
  obtain ⟨b, o, rfl, hr⟩ := hx
  simp only [Instr.fieldAt, Sem.run_bind, run_underlying' hu, Result.andThen_ok, hfi, Instr.sureAddr, Sem.run_pure, sizeOf_ne hz h]
  refine ⟨_, rfl, ?_⟩
  simp only [R]
  exact ⟨b, _, rfl, hr.drop f.offset⟩
 ·rename_i off g n b o hf
  obtain ⟨fs, f, hu, hfi, rfl, hz⟩ := fld_some hf
  simp only [R] at hx
  subst hx
  simp only [Instr.fieldAt, Sem.run_bind, run_underlying' hu, Result.andThen_ok, hfi, Instr.sureAddr, Sem.run_pure, sizeOf_ne hz h]
  exact ⟨_, rfl, by simp only [R]⟩
 ·exact h.elim
theorem iaddr_sound {T : TypeId} {x i : D} {a j : Value} (h : (qiaddr P T x i).1) (hx : R M x a) (hi : R M i j) :
  ∃ v, (Instr.indexAt T a j).run P w = .ok v w ∧ R M (qiaddr P T x i).2 v := by
 unfold qiaddr at h ⊢
 split at h
 ·rename_i sz rows tk k n
  split at h
  ·rename_i e g s hs
   obtain ⟨hu, hz⟩ := sle_some hs
   obtain ⟨⟨h1, h2⟩, rfl⟩ := h
   simp only [R] at hx hi
   obtain ⟨rfl, _⟩ := hi
   obtain ⟨p, cap, rfl, h3, h4, h5, _⟩ := hx
   have hn : n.toNat < rows.length := by omega
   obtain ⟨b, o, rfl, hr⟩ := h5 (by intro e; rw [e] at hn; simp at hn)
   simp only [Instr.indexAt, asIntOf, Sem.run_bind, run_underlying' hu, Result.andThen_ok, Sem.run_pure]
   rw [if_pos ⟨h1, h2⟩]
   simp only [Sem.run_bind, run_sizeOf' hz, Result.andThen_ok, Sem.run_pure, addr_add]
   refine ⟨_, rfl, ?_⟩
   simp only [R]
   refine ⟨b, _, rfl, ?_⟩
   have := hr.get (i := n.toNat) (r := rows[n.toNat]) (by simp [hn])
   unfold rowAt
   rw [List.getD_eq_getElem?_getD, List.getElem?_eq_getElem hn]
   exact this.2
  ·exact h.elim
 ·rename_i b sz l cap k n
  split at h
  ·rename_i e g s hs
   obtain ⟨hu, hz⟩ := sle_some hs
   obtain ⟨⟨h1, h2⟩, rfl⟩ := h
   simp only [R] at hx hi
   obtain ⟨rfl, _⟩ := hi
   subst hx
   simp only [Instr.indexAt, asIntOf, Sem.run_bind, run_underlying' hu, Result.andThen_ok, Sem.run_pure]
   rw [if_pos ⟨h1, h2⟩]
   simp only [Sem.run_bind, run_sizeOf' hz, Result.andThen_ok, Sem.run_pure, addr_add]
   exact ⟨_, rfl, by simp only [R, Nat.zero_add]⟩
  ·exact h.elim
 ·rename_i b o k n
  split at h
  ·rename_i l g s hs
   obtain ⟨e, hu, hz⟩ := are_some hs
   simp only [R] at hx hi
   obtain ⟨rfl, _⟩ := hi
   subst hx
   simp only [Instr.indexAt, asIntOf, Sem.run_bind, run_underlying' hu, Result.andThen_ok, Sem.run_pure, Instr.sureAddr]
   rw [if_pos h]
   simp only [Sem.run_bind, run_sizeOf' hz, Result.andThen_ok, Sem.run_pure, addr_add]
   exact ⟨_, rfl, by simp only [R]⟩
  ·exact h.elim
 ·rename_i cs k n
  split at h
  ·rename_i l g s hs
   obtain ⟨e, hu, hz⟩ := are_some hs
   simp only [R] at hx hi
   obtain ⟨rfl, _⟩ := hi
   obtain ⟨b, o, rfl, hr⟩ := hx
   simp only [Instr.indexAt, asIntOf, Sem.run_bind, run_underlying' hu, Result.andThen_ok, Sem.run_pure, Instr.sureAddr]
   rw [if_pos h]
   simp only [Sem.run_bind, run_sizeOf' hz, Result.andThen_ok, Sem.run_pure, addr_add]
   refine ⟨_, rfl, ?_⟩
   simp only [R]
   exact ⟨b, _, rfl, hr.drop _⟩
  ·exact h.elim
 ·exact h.elim
theorem index_sound {T : TypeId} {x i : D} {a j : Value} (h : (qindex P T x i).1) (hx : R M x a) (hi : R M i j) :
  ∃ v, (Instr.index T a j).run P w = .ok v w ∧ R M (qindex P T x i).2 v := by
 unfold qindex at h ⊢
 split at h
 ·rename_i s k n
  obtain ⟨h1, h2, h3⟩ := h
  simp only [R] at hx hi
  obtain ⟨rfl, _⟩ := hi
  obtain ⟨rfl, _⟩ := hx
  have hn : n.toNat < s.length := by omega
  have hg : (ByteArray.mk s.toArray)[n.toNat]? = some s[n.toNat] := by
   rw [ByteArray.getElem?_lt' _ _ (by simpa [ByteArray.size] using hn)]
   rfl
  simp only [Instr.index, asIntOf, Sem.run_bind, run_underlying' (isStrT_iff h1), Result.andThen_ok, Sem.run_pure]
  rw [if_pos h2, hg]
  refine ⟨_, rfl, ?_⟩
  rw [List.getD_eq_getElem?_getD, List.getElem?_eq_getElem hn]
  refine R_int ?_
  rw [inR_u8]
  have := (s[n.toNat]).toNat_lt
  simp only [Option.getD_some]
  omega
 ·rename_i cs k n
  split at h
  ·rename_i l g s hs
   obtain ⟨e, hu, hz⟩ := are_some hs
   obtain ⟨h1, h2, h3, h4⟩ := h
   simp only [R] at hx hi
   obtain ⟨rfl, _⟩ := hi
   obtain ⟨vs, rfl, hv⟩ := hx
   simp only [Instr.index, asIntOf, Sem.run_bind, run_underlying' hu, Result.andThen_ok, Sem.run_pure]
   rw [if_pos ⟨h1, h2⟩]
   simp only [Sem.run_bind, run_sizeOf' hz, Result.andThen_ok]
   exact run_part hz hv (by split <;> first | trivial | omega)
  ·exact h.elim
 ·exact h.elim
theorem boxCells_w (hc : Conc M w σ) {b : Nat} {cs : List D} (h : boxCells σ b = some cs) : WCells M w cs b 0 := by
 unfold boxCells at h
 split at h
 ·rename_i cs' hg
  cases h
  exact (hc.box _ _ (Store.mem_of_get hg)).wcells
 ·rename_i sz rows cap hg
  cases h
  obtain ⟨⟨vs, T, h1, h2, h3, h4, h5⟩, h6⟩ := hc.box _ _ (Store.mem_of_get hg)
  have := WCells.of_heap (M := M) (w := w) (b := b) (T := T) (fz := (0, 0)) (cs := rows.flatten ++ (vs.drop (rows.length * sz)).map fun _ => D.top) (vs := vs.take (rows.length * sz) ++ vs.drop (rows.length * sz)) (pre := []) (by simpa using h1)
   (RAll.append h4 (by
     generalize vs.drop (rows.length * sz) = us
     induction us with
     | nil => simp [RAll]
     | cons u us ih => simp only [List.map_cons, RAll, R, true_and]; exact ih))
  have key : ∀ (xs ys : List D) (b o : Nat), WCells M w (xs ++ ys) b o → WCells M w xs b o := by
   intro xs
   induction xs with
   | nil => intros; trivial
   | cons x xs ih => intro ys b o h; exact ⟨h.1, ih ys b _ h.2⟩
  exact key _ _ _ _ this
 ·cases h
theorem wc_bytes {b : Nat} : ∀ {rows : List (List D)} {bs : List UInt8} {o : Nat}, rowsBytes rows = some bs → WCells M w rows.flatten b o → ∀ {i : Nat} {c : UInt8}, bs[i]? = some c → w.cell? ⟨b, o + i, none⟩ = some (.int .u8 c.toNat)
 | [], bs, o, h, _, i, c, hi => by simp only [rowsBytes] at h; cases h; simp at hi
 | r :: rs, bs, o, h, hw, i, c, hi => by
  simp only [rowsBytes] at h
  split at h
  ·rename_i x xs hx hxs
   cases h
   unfold rowByte at hx
   split at hx
   ·rename_i n
    simp only [List.flatten_cons, List.cons_append, List.nil_append] at hw
    have hr := rowByte_R (M := M) (w := w) (blk := b) (o := o) (r := [D.int .u8 n]) (b := x) (by unfold rowByte; exact hx) ⟨hw.1, trivial⟩
    cases i with
    | zero => simp only [List.getElem?_cons_zero, Option.some.injEq] at hi; subst hi; exact hr.2
    | succ i =>
     have := wc_bytes hxs hw.2 (i := i) (c := c) (by simpa using hi)
     rwa [show o + 1 + i = o + (i + 1) from by omega] at this
   ·cases hx
  ·cases h
theorem conv_sound (hc : Conc M w σ) {s d : TypeId} {x : D} {a : Value} (h : (qconv P σ s d x).1) (hx : R M x a) :
  ∃ v, (convert s d a).run P w = .ok v w ∧ R M (qconv P σ s d x).2 v := by
 unfold qconv at h ⊢
 split at h
 ·rename_i b sz n cap
  simp only [R] at hx
  subst hx
  split at h
  ·rename_i sz' rows cap' hg
   split at h
   ·rename_i e g m bs hs hb
    obtain ⟨h1, h2, rfl, rfl, rfl, rfl, hl⟩ := h
    obtain ⟨hu, hz⟩ := sle_some hs
    obtain ⟨hlen, _⟩ := rowsBytes_get hb
    have hw := boxCells_w hc (show boxCells σ b = some rows.flatten by unfold boxCells; rw [hg])
    refine ⟨.string ⟨bs.toArray⟩, ?_, R_str (by omega)⟩
    have key := run_convert_bytes_arg (P := P) w s e hu (ink_some h1) b 0 rows.length cap (bs.map fun c => (c.toNat : Int)) (by simp [hlen]) (fun i hi => by
      have := wc_bytes hb hw (i := i) (c := bs[i]'(by omega)) (by simp [show i < bs.length by omega])
      rw [this]
      simp [List.getD, List.getElem?_eq_getElem (show i < bs.length by omega)]) d (isStrT_iff h2)
    rw [key]
    simp [strOfNums, Function.comp_def]
   ·exact h.elim
  ·exact h.elim
 ·rename_i k n
  split at h
  ·rename_i k' hk
   simp only [R] at hx; obtain ⟨rfl, _⟩ := hx
   obtain ⟨e, he⟩ := knownT_some h
   refine ⟨.int k' (k'.wrap n), ?_, R_int (inR_wrap _ _)⟩
   unfold convert
   simp only [Sem.run_bind, run_underlying' he, run_underlying' (ink_some hk), Result.andThen_ok]
   cases e <;> rfl
  ·exact h.elim
 ·simp only [R] at hx; obtain ⟨rfl, hl⟩ := hx
  obtain ⟨e, he⟩ := knownT_some h.1
  refine ⟨_, ?_, R_str hl⟩
  unfold convert
  simp only [Sem.run_bind, run_underlying' he, run_underlying' (isStrT_iff h.2), Result.andThen_ok]
  cases e <;> rfl
 ·rename_i rows tk
  split at h
  ·rename_i e g n bs hs hb
   obtain ⟨h1, h2, rfl⟩ := h
   obtain ⟨hu, hz⟩ := sle_some hs
   obtain ⟨hlen, hget⟩ := rowsBytes_get hb
   simp only [R] at hx
   obtain ⟨p, cap, rfl, h3, h4, h5, _⟩ := hx
   by_cases hne : rows = []
   ·subst hne
    have : bs = [] := by simpa using hlen.symm
    subst this
    cases p with
    | none => exact ⟨_, run_convert_bytes_nil w s e hu (ink_some h1) _ _ d (isStrT_iff h2), by have := R_str (M := M) (s := []) (by simp); exact this⟩
    | some a =>
     obtain ⟨b, o, sp⟩ := a
     refine ⟨.string (ByteArray.mk (List.toArray [])), ?_, R_str (by simp)⟩
     have hl : (loadCells ⟨b, o, sp⟩ 0).run P w = .ok ((([] : List Int).map (Value.int .u8)).toArray) w := by simp [loadCells, loadCellsFrom]
     rw [run_convert_bytes_string w s d e _ _ cap hu (ink_some h1) (isStrT_iff h2)]
     exact (run_bytesToString w _ _ cap [] hl).trans rfl
   ·obtain ⟨b, o, rfl, hr⟩ := h5 hne
    refine ⟨.string ⟨bs.toArray⟩, ?_, R_str (by omega)⟩
    have key := run_convert_bytes_arg (P := P) w s e hu (ink_some h1) b o rows.length cap (bs.map fun c => (c.toNat : Int)) (by simp [hlen]) (fun i hi => by
      have hrow := hr.get (i := i) (r := rows[i]) (by simp [hi])
      have hb' := rowByte_R (hget i rows[i] (by simp [hi])) (hrow.2.toW hc)
      have hz1 := hrow.1
      rw [hb'.1] at hz1
      rw [← hz1, Nat.mul_one] at hb'
      rw [hb'.2]
      simp [List.getD, List.getElem?_eq_getElem (show i < bs.length by omega)]) d (isStrT_iff h2)
    rw [key]
    simp [strOfNums, Function.comp_def]
  ·exact h.elim
 ·exact h.elim
theorem load_sound (hc : Conc M w σ) {T : TypeId} {x : D} {a : Value} (h : (qload P σ T x).1) (hx : R M x a) :
  ∃ v, (Instr.loadAt T a).run P w = .ok v w ∧ R M (qload P σ T x).2 v := by
 unfold qload at h ⊢
 split at h
 ·rename_i g n cs hz
  simp only [R] at hx
  obtain ⟨b, o, rfl, hr⟩ := hx
  simp only [Instr.loadAt, Instr.sureAddr, Sem.run_bind, Result.andThen_ok, Sem.run_pure]
  exact run_loadVar hz (hr.toW hc) (by obtain ⟨h1, h2⟩ := h; split <;> omega)
 ·rename_i g n b o hz
  split at h
  ·rename_i cs hb
   simp only [R] at hx
   subst hx
   simp only [Instr.loadAt, Instr.sureAddr, Sem.run_bind, Result.andThen_ok, Sem.run_pure]
   have := (boxCells_w hc hb).drop o
   rw [Nat.zero_add] at this
   exact run_loadVar hz this (by obtain ⟨h1, h2⟩ := h; split <;> omega)
  ·exact h.elim
 ·exact h.elim
/-! ### Maps -/
theorem mpt_some {T k e : TypeId} (h : mpt P T = some (k, e)) : P.underlying T = some (.map k e) := by
 unfold mpt at h
 split at h
 ·cases h; assumption
 ·cases h
theorem zval_run {T : TypeId} {z : D} (h : zval P T = some z) : ∃ v, (zeroValue T).run P w = .ok v w ∧ R M z v := by
 unfold zval at h
 cases hi : P.info? T with
 | none => rw [hi] at h; cases h
 | some i =>
  rw [hi] at h
  cases hz : i.zero with
  | none => simp [hz] at h
  | some v =>
   simp [hz] at h
   subst h
   exact ⟨v, by simp only [zeroValue, Sem.run_bind, run_typeInfo' hi, Result.andThen_ok, hz, Sem.run_pure], R_ofV M v⟩
/-- One key held against another. -/
theorem sameNow_of {kt : TypeId} {d : TypeDesc} (hd : P.underlying kt = some d) {k k' : D} {v v' : Value} {r : Bool} (h : keqD k k' = some r) (hk : keyOK P kt k = true) (hv : R M k v) (hv' : R M k' v') : Instr.sameNow d v v' = some r := by
 unfold keqD at h
 split at h
 ·rename_i k1 a k2 b
  simp only [R] at hv hv'
  obtain ⟨rfl, _⟩ := hv
  obtain ⟨rfl, _⟩ := hv'
  split at h
  ·rename_i e
   subst e
   cases h
   simp only [keyOK, ink, hd] at hk
   split at hk
   ·rename_i j hj
    cases hj
    simp only [Instr.sameNow, if_true, Option.some.injEq]
    rfl
   ·cases hk
  ·cases h
 ·rename_i s t
  simp only [R] at hv hv'
  obtain ⟨rfl, _⟩ := hv
  obtain ⟨rfl, _⟩ := hv'
  cases h
  simp only [keyOK, isStrT, hd] at hk
  split at hk
  ·rename_i hj
   cases hj
   simp only [Instr.sameNow, Option.some.injEq]
   rw [beq_toListBytes]
   simp only [ByteArray.toList_mk, beq_bytes]
  ·cases hk
 ·cases h
theorem findNow_get {kt : TypeId} {d : TypeDesc} (hd : P.underlying kt = some d) {k : D} {v : Value} (hk : keyOK P kt k = true) (hv : R M k v) : ∀ {es : List (D × D)} {ms : List MapEntry} {r : Option D} (i : Nat), EntsR M es ms → mget k es = some r →
  match r with
  | none => Instr.findNow d v ms i = some none
  | some x => ∃ j y, Instr.findNow d v ms i = some (some (j, y)) ∧ R M x y
 | [], [], r, i, _, h => by simp only [mget] at h; cases h; rfl
 | e :: es, m :: ms, r, i, ⟨h1, h2⟩, h => by
  simp only [mget] at h
  split at h
  ·rename_i he
   cases h
   have := sameNow_of hd he hk hv h1.1
   simp only [Instr.findNow, this]
   exact ⟨i, m.val, rfl, h1.2⟩
  ·rename_i he
   have := sameNow_of hd he hk hv h1.1
   have ih := findNow_get hd hk hv (i + 1) h2 h
   simp only [Instr.findNow, this]
   exact ih
  ·cases h
 | [], _ :: _, _, _, h, _ => h.elim
 | _ :: _, [], _, _, h, _ => h.elim
theorem checkKey_run {kt : TypeId} {k : D} {v : Value} (hk : keyOK P kt k = true) (hv : R M k v) (b : Bool) : (Instr.checkKey b 10000 kt v).run P w = .ok () w := by
 unfold keyOK at hk
 split at hk
 ·simp only [R] at hv
  obtain ⟨rfl, _⟩ := hv
  unfold ink at hk
  split at hk
  ·rename_i hu
   rw [show (10000 : Nat) = 9999 + 1 from rfl, Instr.checkKey]
   simp only [Sem.run_bind, run_underlying' hu, Result.andThen_ok, Sem.run_pure]
  ·cases hk
 ·simp only [R] at hv
  obtain ⟨rfl, _⟩ := hv
  rw [show (10000 : Nat) = 9999 + 1 from rfl, Instr.checkKey]
  simp only [Sem.run_bind, run_underlying' (isStrT_iff hk), Result.andThen_ok, Sem.run_pure]
 ·cases hk
theorem keyOK_under {kt : TypeId} {k : D} (hk : keyOK P kt k = true) : ∃ d, P.underlying kt = some d := by
 unfold keyOK at hk
 split at hk
 ·unfold ink at hk
  split at hk
  ·exact ⟨_, by assumption⟩
  ·cases hk
 ·exact ⟨_, isStrT_iff hk⟩
 ·cases hk
theorem getObj_run {b : Nat} {ms : Array MapEntry} {c : Nat} (h : w.heap[b]? = some (.map ms c)) : (getObj b).run P w = .ok (.map ms c) w := by
 simp [getObj, Sem.run, h]
theorem look_sound (hc : Conc M w σ) {T : TypeId} {x i : D} {a j : Value} {ok : Bool} (h : (qlook P σ T x i ok).1) (hx : R M x a) (hi : R M i j) :
  ∃ v, (Instr.lookup T a j ok).run P w = .ok v w ∧ R M (qlook P σ T x i ok).2 v := by
 unfold qlook at h ⊢
 split at h
 ·rename_i k e es hT hes
  split at h
  ·rename_i r z hg hz
   obtain ⟨d, hd⟩ := keyOK_under h
   obtain ⟨zv, z1, z2⟩ := zval_run (P := P) (w := w) (M := M) hz
   have key : ∃ ms : List MapEntry, EntsR M es ms ∧ ((a = .map none ∧ ms = []) ∨ ∃ b c, a = .map (some b) ∧ w.heap[b]? = some (.map (List.toArray ms) c)) := by
    unfold ments at hes
    split at hes
    ·rename_i b
     split at hes
     ·rename_i es' hb
      cases hes
      obtain ⟨⟨ms, c, m1, m2, _⟩, _⟩ := hc.box _ _ (Store.mem_of_get hb)
      simp only [R] at hx
      exact ⟨ms, m2, .inr ⟨b, c, hx, m1⟩⟩
     ·cases hes
    ·cases hes
     simp only [R] at hx
     exact ⟨[], trivial, .inl ⟨hx, rfl⟩⟩
    ·cases hes
   obtain ⟨ms, m1, m2⟩ := key
   have hf := findNow_get hd h hi 0 m1 hg
   unfold Instr.lookup
   rcases m2 with ⟨rfl, rfl⟩ | ⟨b, c, rfl, hb⟩
   ·simp only [Sem.run_bind, run_underlying' (mpt_some hT), Result.andThen_ok, Sem.run_pure, checkKey_run h hi, Instr.findKey, run_underlying' hd]
    cases r with
    | none =>
     simp only [hf, Sem.run_pure, Result.andThen_ok, Sem.run_bind, z1]
     refine ⟨_, rfl, ?_⟩
     simp only [lookD, Option.getD_none, Option.isSome_none]
     cases ok
     ·simpa using z2
     ·simp only [if_true, R]
      exact ⟨[zv, .bool false], by simp, by simp only [RAll, R]; exact ⟨z2, trivial, trivial⟩⟩
    | some x' =>
     obtain ⟨j', y, f1, f2⟩ := hf
     simp only [f1, Sem.run_pure, Result.andThen_ok, Sem.run_bind]
     refine ⟨_, rfl, ?_⟩
     simp only [lookD, Option.getD_some, Option.isSome_some]
     cases ok
     ·simpa using f2
     ·simp only [if_true, R]
      exact ⟨[y, .bool true], by simp, by simp only [RAll, R]; exact ⟨f2, trivial, trivial⟩⟩
   ·simp only [Sem.run_bind, run_underlying' (mpt_some hT), Result.andThen_ok, Sem.run_pure, getObj_run hb, checkKey_run h hi, Instr.findKey, run_underlying' hd]
    cases r with
    | none =>
     simp only [hf, Sem.run_pure, Result.andThen_ok, Sem.run_bind, z1]
     refine ⟨_, rfl, ?_⟩
     simp only [lookD, Option.getD_none, Option.isSome_none]
     cases ok
     ·simpa using z2
     ·simp only [if_true, R]
      exact ⟨[zv, .bool false], by simp, by simp only [RAll, R]; exact ⟨z2, trivial, trivial⟩⟩
    | some x' =>
     obtain ⟨j', y, f1, f2⟩ := hf
     simp only [f1, Sem.run_pure, Result.andThen_ok, Sem.run_bind]
     refine ⟨_, rfl, ?_⟩
     simp only [lookD, Option.getD_some, Option.isSome_some]
     cases ok
     ·simpa using f2
     ·simp only [if_true, R]
      exact ⟨[y, .bool true], by simp, by simp only [RAll, R]; exact ⟨f2, trivial, trivial⟩⟩
  ·exact h.elim
 ·exact h.elim
theorem extract_sound {x : D} {i : Nat} {a : Value} (h : (qextract x i).1) (hx : R M x a) :
  ∃ v, (Instr.extract a i).run P w = .ok v w ∧ R M (qextract x i).2 v := by
 unfold qextract at h ⊢
 split at h
 ·rename_i ds
  split at h
  ·rename_i d hd
   simp only [R] at hx
   obtain ⟨vs, rfl, hv⟩ := hx
   obtain ⟨y, hy, hr⟩ := hv.get hd
   refine ⟨y, ?_, hr⟩
   simp only [Instr.extract, List.getElem?_toArray, hy]
   rfl
  ·exact h.elim
 ·exact h.elim
theorem iface_sound {T : TypeId} {x : D} {a : Value} (h : (qiface P T x).1) (hx : R M x a) :
  ∃ v, (Instr.makeInterface T a).run P w = .ok v w ∧ R M (qiface P T x).2 v := by
 unfold qiface at h ⊢
 obtain ⟨d, hd⟩ := knownT_some h.1
 refine ⟨.iface T a, ?_, by simp only [R]; exact ⟨a, rfl, hx⟩⟩
 have hi := h.2
 simp only [isIfaceT, hd] at hi
 simp only [Instr.makeInterface, Sem.run_bind, run_underlying' hd, Result.andThen_ok]
 cases d <;> first | rfl | (simp at hi)
end
end Go.Proofs.YtfjnohmdilmfhaaGreatDoor
/- Own layer, part 5: slices, built-ins, composite values; all quiet operations together. -/
namespace Go.Proofs.YtfjnohmdilmfhaaGreatDoor
open Go Go.RowKit
set_option linter.unusedSimpArgs false
set_option linter.unusedVariables false
section
variable {P : Program} {M : Mem} {w : World} {σ : Store}
theorem ob_some {x : Option D} {dflt : Nat} {n : Int} (h : ob x dflt = some n) : (x = none ∧ n = dflt) ∨ ∃ k, x = some (.int k n) := by
 unfold ob at h; split at h
 ·cases h; exact .inl ⟨rfl, rfl⟩
 ·cases h; exact .inr ⟨_, rfl⟩
 ·cases h
def RO (M : Mem) : Option D → Option Value → Prop
 | none, none => True
 | some d, some v => R M d v
 | _, _ => False
theorem run_sliceBound {k : IntKind} {i : Int} {y : Nat} {code : BoundsCode} (h0 : 0 ≤ i) (h1 : i ≤ y) : (Instr.sliceBound (.int k i) y code).run P w = .ok i.toNat w := by
 simp only [Instr.sliceBound, asIntOf, Sem.run_bind, Sem.run_pure, Result.andThen_ok]
 rw [if_pos ⟨h0, h1⟩]
 rfl
theorem run_sliceBounds {b : Bool} {len cap : Nat} {lo hi : Option D} {lv hv : Option Value} {l h : Int} (hlo : ob lo 0 = some l) (hhi : ob hi len = some h)
  (rl : RO M lo lv) (rh : RO M hi hv) (h0 : 0 ≤ l) (h1 : l ≤ h) (h2 : h ≤ cap) :
  (Instr.sliceBounds b len cap lv hv none).run P w = .ok (l.toNat, h.toNat, cap) w := by
 rcases ob_some hhi with ⟨rfl, rfl⟩ | ⟨k, rfl⟩ <;> rcases ob_some hlo with ⟨rfl, rfl⟩ | ⟨k', rfl⟩ <;> cases lv <;> cases hv <;> simp only [RO, R] at rl rh
 ·simp [Instr.sliceBounds]
 ·obtain ⟨rfl, _⟩ := rl
  simp only [Instr.sliceBounds, Sem.run_bind, Sem.run_pure, Result.andThen_ok, Option.isSome_none, Bool.false_eq_true, if_false, run_sliceBound h0 h1, Int.toNat_natCast]
 ·obtain ⟨rfl, _⟩ := rh
  simp only [Instr.sliceBounds, Sem.run_bind, Sem.run_pure, Result.andThen_ok, run_sliceBound (by omega : (0 : Int) ≤ h) h2]
  rfl
 ·obtain ⟨rfl, _⟩ := rh
  obtain ⟨rfl, _⟩ := rl
  simp only [Instr.sliceBounds, Sem.run_bind, Sem.run_pure, Result.andThen_ok, run_sliceBound (by omega : (0 : Int) ≤ h) h2, Option.isSome_none, Bool.false_eq_true, if_false]
  rw [run_sliceBound h0 (by omega)]
  rfl
theorem run_sliceBounds3 {len cap : Nat} {lo hi : Option D} {lv hv : Option Value} {k : IntKind} {l h m : Int} (hlo : ob lo 0 = some l) (hhi : ob hi len = some h) (hne : hv ≠ none)
  (rl : RO M lo lv) (rh : RO M hi hv) (h0 : 0 ≤ l) (h1 : l ≤ h) (h2 : h ≤ m) (h3 : m ≤ cap) :
  (Instr.sliceBounds true len cap lv hv (some (.int k m))).run P w = .ok (l.toNat, h.toNat, m.toNat) w := by
 cases hv with
 | none => exact absurd rfl hne
 | some hv =>
  rcases ob_some hhi with ⟨rfl, rfl⟩ | ⟨k, rfl⟩
  ·simp only [RO] at rh
  ·simp only [RO, R] at rh
   obtain ⟨rfl, _⟩ := rh
   rcases ob_some hlo with ⟨rfl, rfl⟩ | ⟨k', rfl⟩ <;> cases lv <;> simp only [RO, R] at rl
   ·simp only [Instr.sliceBounds, Sem.run_bind, Sem.run_pure, Result.andThen_ok, run_sliceBound (by omega : (0 : Int) ≤ m) h3]
    rw [run_sliceBound (by omega : (0 : Int) ≤ h) (by omega)]
    rfl
   ·obtain ⟨rfl, _⟩ := rl
    simp only [Instr.sliceBounds, Sem.run_bind, Sem.run_pure, Result.andThen_ok, run_sliceBound (by omega : (0 : Int) ≤ m) h3]
    rw [run_sliceBound (by omega : (0 : Int) ≤ h) (by omega)]
    simp only [Result.andThen_ok]
    rw [run_sliceBound h0 (by omega)]
    rfl
theorem RCells.append' : ∀ {cs ds : List D} {b o : Nat}, RCells M cs b o → RCells M ds b (o + cs.length) → RCells M (cs ++ ds) b o
 | [], _, _, _, _, h => by simpa using h
 | c :: cs, ds, b, o, h, h' => by
  simp only [RCells, List.cons_append] at h ⊢
  refine ⟨h.1, RCells.append' h.2 ?_⟩
  rwa [List.length_cons, show o + (cs.length + 1) = o + 1 + cs.length from by omega] at h'
theorem RRows.flat {sz : Nat} : ∀ {rows : List (List D)} {b o : Nat}, RRows M sz rows b o → RCells M rows.flatten b o ∧ (∀ r ∈ rows, r.length = sz)
 | [], _, _, _ => by simp [RCells]
 | r :: rs, b, o, h => by
  simp only [RRows] at h
  obtain ⟨h1, h2⟩ := RRows.flat h.2.2
  refine ⟨?_, ?_⟩
  ·simp only [List.flatten_cons]
   exact h.2.1.append' (by rw [h.1]; exact h1)
  ·intro x hx
   rcases List.mem_cons.1 hx with rfl | hx
   ·exact h.1
   ·exact h2 x hx
theorem chunk_length (sz : Nat) : ∀ (n : Nat) (cs : List D), (chunk sz n cs).length = n
 | 0, _ => rfl
 | n + 1, cs => by simp [chunk, chunk_length sz n]
theorem RCells.take' {M : Mem} : ∀ {k : Nat} {ds : List D} {b o : Nat}, RCells M ds b o → RCells M (ds.take k) b o
 | 0, _, _, _, _ => by simp [RCells]
 | k + 1, [], _, _, _ => by simp [RCells]
 | k + 1, d :: ds, b, o, h => by simp only [RCells, List.take_succ_cons] at h ⊢; exact ⟨h.1, RCells.take' h.2⟩
theorem RRows_chunk' {M : Mem} (sz b : Nat) : ∀ (n : Nat) (cs : List D) (o : Nat), n * sz ≤ cs.length → RCells M cs b o → RRows M sz (chunk sz n cs) b o
 | 0, _, _, _, _ => by simp [chunk, RRows]
 | n + 1, cs, o, hl, h => by
  rw [Nat.add_mul] at hl
  simp only [chunk, RRows]
  exact ⟨by simp; omega, h.take', RRows_chunk' sz b n (cs.drop sz) (o + sz) (by simp; omega) (h.drop sz)⟩
theorem sap_sound {T : TypeId} {x : D} {a : Value} (h : (qsap P T x).1) (hx : R M x a) : ∃ v, (Instr.arrayAt T a).run P w = .ok v w ∧ R M (qsap P T x).2 v := by
 unfold qsap at h ⊢
 split at h
 ·rename_i s rows tk
  split at h
  ·rename_i n g m ha
   obtain ⟨e, hu, hz⟩ := are_some ha
   obtain ⟨rfl, h2, h3⟩ := h
   simp only [R] at hx
   obtain ⟨p, cap, rfl, h5, h6, h7, h8⟩ := hx
   obtain ⟨b, o, rfl, hr⟩ := h7 h3
   have hlt : ¬ rows.length < n := by omega
   simp only [Instr.arrayAt, Sem.run_bind, run_underlying' hu, Result.andThen_ok, hlt, if_false, Sem.run_pure]
   exact ⟨_, rfl, by simp only [R]; exact ⟨b, o, rfl, hr.flat.1⟩⟩
  ·exact h.elim
 ·exact h.elim
theorem slice_sound {T : TypeId} {x : D} {lo hi mx : Option D} {a : Value} {lv hv mv : Option Value} (h : (qslice P T x lo hi mx).1) (hx : R M x a)
  (rl : RO M lo lv) (rh : RO M hi hv) (rm : RO M mx mv) :
  ∃ v, (Instr.sliceAt T a lv hv mv).run P w = .ok v w ∧ R M (qslice P T x lo hi mx).2 v := by
 unfold qslice at h ⊢
 split at h
 ·rename_i s
  split at h
  ·rename_i l hh hlo hhi
   obtain ⟨h1, h2, h3, h4⟩ := h
   simp only [R] at hx
   obtain ⟨rfl, hs⟩ := hx
   cases mv with
   | some _ => simp only [RO] at rm
   | none =>
    simp only [Instr.sliceAt, Instr.slice, Sem.run_bind, run_underlying' (isStrT_iff h1), Result.andThen_ok, Option.isSome_none, Bool.false_eq_true, if_false, Sem.run_pure]
    rw [run_sliceBounds (M := M) (l := l) (h := hh) hlo (by simpa [ByteArray.size] using hhi) rl rh h2 h3 (by simpa [ByteArray.size] using h4)]
    simp only [Result.andThen_ok, Sem.run_pure]
    refine ⟨_, rfl, ?_⟩
    rw [ByteArray.extract_mk]
    have e : (s.drop l.toNat).take (hh.toNat - l.toNat) = (s.take hh.toNat).drop l.toNat := by
     rw [List.drop_take]
    rw [e]
    exact R_str (by simp; omega)
  ·exact h.elim
 ·rename_i b sz n cap
  simp only [R] at hx
  subst hx
  split at h
  ·rename_i e g s l hh hs hlo hhi
   obtain ⟨hu, hz⟩ := sle_some hs
   cases mv with
   | some _ => simp only [RO] at rm
   | none =>
    split at h
    ·rename_i hl0
     subst hl0
     obtain ⟨h2, h3⟩ := h
     simp only [Instr.sliceAt, Instr.slice, Sem.run_bind, run_underlying' hu, Result.andThen_ok]
     rw [run_sliceBounds (M := M) (l := 0) (h := hh) hlo hhi rl rh (Int.le_refl _) h2 h3]
     simp only [Result.andThen_ok, run_sizeOf' hz, Sem.run_pure, if_true]
     refine ⟨_, rfl, ?_⟩
     simp only [R, Int.toNat_zero, Nat.zero_mul, Nat.sub_zero, Option.map_some, addr_add, Nat.add_zero, ite_self]
    ·rename_i hl0
     obtain ⟨rfl, h1, h2, h3, h4⟩ := h
     simp only [Instr.sliceAt, Instr.slice, Sem.run_bind, run_underlying' hu, Result.andThen_ok]
     rw [run_sliceBounds (M := M) (l := l) (h := hh) hlo hhi rl rh (by omega) h2 h3]
     simp only [Result.andThen_ok, run_sizeOf' hz, Sem.run_pure, if_neg hl0]
     refine ⟨_, rfl, ?_⟩
     have hne : ¬ cap = l.toNat := by omega
     simp only [R, Option.map_some, addr_add, Nat.zero_add, if_neg hne]
  ·exact h.elim
 ·rename_i sz rows t
  simp only [R] at hx
  obtain ⟨p, cap, rfl, h5, h6, h7, h8⟩ := hx
  split at h
  ·rename_i e g s l hh hs hlo hhi
   obtain ⟨hu, hz⟩ := sle_some hs
   obtain ⟨h1, h2, h3, h4⟩ := h
   cases mv with
   | some _ => simp only [RO] at rm
   | none =>
    simp only [Instr.sliceAt, Instr.slice, Sem.run_bind, run_underlying' hu, Result.andThen_ok]
    rw [run_sliceBounds (M := M) (l := l) (h := hh) hlo hhi rl rh h2 h3 (by omega)]
    simp only [Result.andThen_ok, run_sizeOf' hz, Sem.run_pure]
    refine ⟨_, rfl, ?_⟩
    have hlen : ((rows.take hh.toNat).drop l.toNat).length = hh.toNat - l.toNat := by simp; omega
    simp only [R]
    refine ⟨_, _, by rw [hlen], by rw [hlen]; omega, by rw [hlen]; omega, ?_, ?_⟩
    ·intro hne
     have hl : l.toNat < rows.length := by
      rcases Nat.lt_or_ge l.toNat rows.length with h | h
      ·exact h
      ·exact absurd (List.eq_nil_of_length_eq_zero (by rw [hlen]; omega)) hne
     obtain ⟨b, o, rfl, hr⟩ := h7 (by intro e; rw [e] at hl; simp at hl)
     rw [if_neg (by omega)]
     have hsz : sz = s := h1.resolve_left (by intro e; rw [e] at hl; simp at hl)
     subst hsz
     exact ⟨b, _, by simp only [Option.map_some, addr_add], (hr.take hh.toNat).drop l.toNat⟩
    ·split
     ·rename_i he
      obtain ⟨rfl, rfl⟩ := he
      have e2 : (if cap = (0 : Int).toNat then p else Option.map (fun x => x.add ((0 : Int).toNat * s)) p) = p := by
       split
       ·rfl
       ·cases p with
        | none => rfl
        | some q => obtain ⟨b, o, sp⟩ := q; simp [Addr.add]
      rw [e2]
      simpa [TokR] using h8
     ·trivial
  ·rename_i e g s l hh k m hs hlo hhi
   obtain ⟨hu, hz⟩ := sle_some hs
   obtain ⟨h1, h2, h3, rfl, h9, h10⟩ := h
   cases mv with
   | none => simp only [RO] at rm
   | some mv =>
    simp only [RO, R] at rm
    obtain ⟨rfl, _⟩ := rm
    have hne : hv ≠ none := by
     intro e; subst e
     cases hi with
     | none => simp at h10
     | some _ => simp only [RO] at rh
    ·simp only [Instr.sliceAt, Instr.slice, Sem.run_bind, run_underlying' hu, Result.andThen_ok]
     rw [run_sliceBounds3 (M := M) (l := l) (h := m) hlo hhi hne rl rh h2 h3 (Int.le_refl _) (by omega)]
     simp only [Result.andThen_ok, run_sizeOf' hz, Sem.run_pure]
     refine ⟨_, rfl, ?_⟩
     have hlen : ((rows.take m.toNat).drop l.toNat).length = m.toNat - l.toNat := by simp; omega
     simp only [R]
     refine ⟨_, _, by rw [hlen], by rw [hlen]; omega, by rw [hlen]; omega, ?_, by simp only [TokR]; rw [hlen]⟩
     intro hne
     have hl : l.toNat < m.toNat := by
      rcases Nat.lt_or_ge l.toNat m.toNat with h | h
      ·exact h
      ·exact absurd (List.eq_nil_of_length_eq_zero (by rw [hlen]; omega)) hne
     obtain ⟨b, o, rfl, hr⟩ := h7 (by intro e; rw [e] at h9; simp at h9; omega)
     rw [if_neg (by omega)]
     have hsz : sz = s := h1.resolve_left (by intro e; rw [e] at h9; simp at h9; omega)
     subst hsz
     exact ⟨b, _, by simp only [Option.map_some, addr_add], (hr.take m.toNat).drop l.toNat⟩
  ·exact h.elim
 ·rename_i cs
  split at h
  ·rename_i n g s ha
   obtain ⟨e, hu, hz⟩ := are_some ha
   split at h
   ·rename_i l hh hlo hhi
    obtain ⟨h1, h2, h3, h4, h5, h6⟩ := h
    simp only [R] at hx
    obtain ⟨b, o, rfl, hr⟩ := hx
    cases mv with
    | some _ => simp only [RO] at rm
    | none =>
     simp only [Instr.sliceAt, Sem.run_bind, run_underlying' hu, Result.andThen_ok, Instr.sureAddr, Sem.run_pure]
     rw [run_sliceBounds (M := M) (l := l) (h := hh) hlo hhi rl rh h1 h2 h3]
     simp only [Result.andThen_ok, run_sizeOf' hz, Sem.run_pure]
     refine ⟨_, rfl, ?_⟩
     have hne : ¬ n = l.toNat := by omega
     have hlen : (((chunk s n cs).take hh.toNat).drop l.toNat).length = hh.toNat - l.toNat := by rw [List.length_drop, List.length_take, chunk_length]; omega
     simp only [R]
     refine ⟨_, _, by rw [hlen], by rw [hlen]; omega, by rw [hlen]; omega, fun _ => ?_, ?_⟩
     ·rw [if_neg hne]
      exact ⟨b, _, by simp only [addr_add], ((RRows_chunk' s b n cs o h5 hr).take hh.toNat).drop l.toNat⟩
     ·split
      ·simp only [TokR, hlen]; omega
      ·trivial
   ·exact h.elim
  ·exact h.elim
 ·rename_i b o
  split at h
  ·rename_i n g s ha
   obtain ⟨e, hu, hz⟩ := are_some ha
   split at h
   ·rename_i l hh hlo hhi
    obtain ⟨h1, h2, h3, h4⟩ := h
    simp only [R] at hx
    subst hx
    cases mv with
    | some _ => simp only [RO] at rm
    | none =>
     simp only [Instr.sliceAt, Sem.run_bind, run_underlying' hu, Result.andThen_ok, Instr.sureAddr, Sem.run_pure]
     rw [run_sliceBounds (M := M) (l := l) (h := hh) hlo hhi rl rh h1 h2 h3]
     simp only [Result.andThen_ok, run_sizeOf' hz, Sem.run_pure]
     refine ⟨_, rfl, ?_⟩
     have hne : ¬ n = l.toNat := by omega
     simp only [R, if_neg hne, addr_add]
   ·exact h.elim
  ·exact h.elim
 ·exact h.elim
theorem run_foldlM_min (k : IntKind) : ∀ (ds : List D) (vs : List Value) (a n : Int), foldI mnI k a ds = some n → inR k a → RAll M ds vs →
  (vs.foldlM Builtin.min2 (.int k a)).run P w = .ok (.int k n) w ∧ inR k n
 | [], [], a, n, h, ha, _ => by simp only [foldI] at h; cases h; exact ⟨rfl, ha⟩
 | d :: ds, v :: vs, a, n, h, ha, hr => by
  simp only [RAll] at hr
  cases d <;> simp only [foldI] at h <;> try (cases h; done)
  rename_i k' b
  split at h
  ·rename_i e; subst e
   have h1 := hr.1
   simp only [R] at h1
   obtain ⟨rfl, hb⟩ := h1
   have := run_foldlM_min _ ds vs (mnI a b) n h (by unfold mnI; split <;> assumption) hr.2
   refine ⟨?_, this.2⟩
   simp only [List.foldlM_cons, Sem.run_bind, Builtin.min2, Sem.run_pure, Result.andThen_ok]
   exact this.1
  ·cases h
 | [], _ :: _, _, _, _, _, hr => by simp [RAll] at hr
 | _ :: _, [], _, _, _, _, hr => by simp [RAll] at hr
theorem run_foldlM_max (k : IntKind) : ∀ (ds : List D) (vs : List Value) (a n : Int), foldI mxI k a ds = some n → inR k a → RAll M ds vs →
  (vs.foldlM Builtin.max2 (.int k a)).run P w = .ok (.int k n) w ∧ inR k n
 | [], [], a, n, h, ha, _ => by simp only [foldI] at h; cases h; exact ⟨rfl, ha⟩
 | d :: ds, v :: vs, a, n, h, ha, hr => by
  simp only [RAll] at hr
  cases d <;> simp only [foldI] at h <;> try (cases h; done)
  rename_i k' b
  split at h
  ·rename_i e; subst e
   have h1 := hr.1
   simp only [R] at h1
   obtain ⟨rfl, hb⟩ := h1
   have := run_foldlM_max _ ds vs (mxI a b) n h (by unfold mxI; split <;> assumption) hr.2
   refine ⟨?_, this.2⟩
   simp only [List.foldlM_cons, Sem.run_bind, Builtin.max2, Sem.run_pure, Result.andThen_ok]
   exact this.1
  ·cases h
 | [], _ :: _, _, _, _, _, hr => by simp [RAll] at hr
 | _ :: _, [], _, _, _, _, hr => by simp [RAll] at hr
theorem RAll_one {d : D} {vs : List Value} (h : RAll M [d] vs) : ∃ v, vs = [v] ∧ R M d v := by
 cases vs with
 | nil => simp [RAll] at h
 | cons v vs => cases vs with
  | nil => simp only [RAll, and_true] at h; exact ⟨v, rfl, h⟩
  | cons _ _ => simp [RAll] at h
theorem inR_len {n : Nat} (h : n ≤ lim) : inR .i64 (n : Int) := by rw [inR_i64]; unfold lim at h; omega
theorem sle_isSome {t : TypeId} (h : (sle P t).isSome = true) : ∃ e, P.underlying t = some (.slice e) := by
 obtain ⟨⟨e, g, n⟩, hs⟩ := Option.isSome_iff_exists.1 h
 exact ⟨e, (sle_some hs).1⟩
theorem builtin_sound {b : Builtin} {ts : Array TypeId} {T : TypeId} {cs : Array Bool} {xs : List D} {vs : List Value} (h : (qbuiltin P σ b ts xs).1) (hx : RAll M xs vs) :
  ∃ v, (builtin b ts T cs (List.toArray vs)).run P w = .ok (.value v) w ∧ R M (qbuiltin P σ b ts xs).2 v := by
 unfold qbuiltin at h ⊢
 split at h
 ·rename_i s
  obtain ⟨t, ht, hu⟩ := h
  obtain ⟨v, rfl, hv⟩ := RAll_one hx
  simp only [R] at hv
  obtain ⟨rfl, hl⟩ := hv
  refine ⟨_, ?_, R_int (inR_len hl)⟩
  simp only [builtin, Builtin.len_, ht, List.getElem?_toArray, List.getElem?_cons_zero, Sem.run_bind, run_underlying' (isStrT_iff hu), Result.andThen_ok, Sem.run_pure]
  rfl
 ·rename_i sz rows tk
  obtain ⟨t, ht, hu⟩ := h
  obtain ⟨e, hu⟩ := sle_isSome hu
  obtain ⟨v, rfl, hv⟩ := RAll_one hx
  simp only [R] at hv
  obtain ⟨p, cap, rfl, _, hl, _⟩ := hv
  refine ⟨_, ?_, R_int (inR_len hl)⟩
  simp only [builtin, Builtin.len_, ht, List.getElem?_toArray, List.getElem?_cons_zero, Sem.run_bind, run_underlying' hu, Result.andThen_ok, Sem.run_pure]
  rfl
 ·rename_i b sz n cap
  obtain ⟨t, ht, hu, hl⟩ := h
  obtain ⟨e, hu⟩ := sle_isSome hu
  obtain ⟨v, rfl, hv⟩ := RAll_one hx
  simp only [R] at hv
  subst hv
  refine ⟨_, ?_, R_int (inR_len hl)⟩
  simp only [builtin, Builtin.len_, ht, List.getElem?_toArray, List.getElem?_cons_zero, Sem.run_bind, run_underlying' hu, Result.andThen_ok, Sem.run_pure]
  rfl
 ·rename_i sz rows
  obtain ⟨t, ht, hu⟩ := h
  obtain ⟨e, hu⟩ := sle_isSome hu
  obtain ⟨v, rfl, hv⟩ := RAll_one hx
  simp only [R, TokR] at hv
  obtain ⟨p, cap, rfl, _, hl, _, rfl⟩ := hv
  refine ⟨_, ?_, R_int (inR_len hl)⟩
  simp only [builtin, Builtin.cap_, ht, List.getElem?_toArray, List.getElem?_cons_zero, Sem.run_bind, run_underlying' hu, Result.andThen_ok, Sem.run_pure]
  rfl
 ·rename_i sz rows
  obtain ⟨t, ht, hu⟩ := h
  obtain ⟨e, hu⟩ := sle_isSome hu
  obtain ⟨v, rfl, hv⟩ := RAll_one hx
  simp only [R, TokR] at hv
  obtain ⟨p, cap, rfl, _, hl, _, rfl, rfl⟩ := hv
  refine ⟨_, ?_, R_int (inR_len (n := 0) (by unfold lim; omega))⟩
  simp only [builtin, Builtin.cap_, ht, List.getElem?_toArray, List.getElem?_cons_zero, Sem.run_bind, run_underlying' hu, Result.andThen_ok, Sem.run_pure]
  rfl
 ·rename_i b sz n c
  obtain ⟨t, ht, hu, hl⟩ := h
  obtain ⟨e, hu⟩ := sle_isSome hu
  obtain ⟨v, rfl, hv⟩ := RAll_one hx
  simp only [R] at hv
  subst hv
  refine ⟨_, ?_, R_int (inR_len hl)⟩
  simp only [builtin, Builtin.cap_, ht, List.getElem?_toArray, List.getElem?_cons_zero, Sem.run_bind, run_underlying' hu, Result.andThen_ok, Sem.run_pure]
  rfl
 ·rename_i k a ds
  split at h
  ·rename_i n hn
   cases vs with
   | nil => simp [RAll] at hx
   | cons v vs =>
    simp only [RAll, R] at hx
    obtain ⟨⟨rfl, ha⟩, hr⟩ := hx
    obtain ⟨h1, h2⟩ := run_foldlM_min (P := P) (w := w) k ds vs a n hn ha hr
    refine ⟨_, ?_, R_int h2⟩
    simp only [builtin, Builtin.min_, Sem.run_bind, h1, Result.andThen_ok, Sem.run_pure]
  ·exact h.elim
 ·rename_i k a ds
  split at h
  ·rename_i n hn
   cases vs with
   | nil => simp [RAll] at hx
   | cons v vs =>
    simp only [RAll, R] at hx
    obtain ⟨⟨rfl, ha⟩, hr⟩ := hx
    obtain ⟨h1, h2⟩ := run_foldlM_max (P := P) (w := w) k ds vs a n hn ha hr
    refine ⟨_, ?_, R_int h2⟩
    simp only [builtin, Builtin.max_, Sem.run_bind, h1, Result.andThen_ok, Sem.run_pure]
  ·exact h.elim
 ·exact h.elim
/-! ### Composite values -/
theorem R_cells {d : D} {v : Value} (h : R M d v) (hd : d.flat = true) : RAll M d.cellsOf v.cells.toList := by
 cases d <;> simp only [D.flat, D.isCell, Bool.false_eq_true] at hd <;> simp only [D.cellsOf]
 case ag cs =>
  simp only [R] at h
  obtain ⟨vs, rfl, hv⟩ := h
  simpa [Value.cells] using hv
 all_goals
  have ho := R.oneCell h (by first | rfl | exact hd)
  have e : v.cells = #[v] := by cases v <;> first | rfl | (simp [Value.oneCell'] at ho)
  rw [e]
  simp only [RAll, and_true]
  exact h
theorem foldl_set (off : Nat) : ∀ (xs : List Value) (k : Nat) (vs : List Value), off + k + xs.length ≤ vs.length →
  (xs.zipIdx k).foldl (fun (cs : Array Value) (x : Value × Nat) => cs.setIfInBounds (off + x.2) x.1) (List.toArray vs) = List.toArray (vs.take (off + k) ++ xs ++ vs.drop (off + k + xs.length))
 | [], k, vs, _ => by simp
 | x :: xs, k, vs, h => by
  simp only [List.length_cons] at h
  simp only [List.zipIdx_cons, List.foldl_cons, List.setIfInBounds_toArray]
  rw [foldl_set off xs (k + 1) (vs.set (off + k) x) (by simp; omega)]
  congr 1
  rw [show off + (k + 1) = (off + k) + 1 from by omega]
  rw [List.take_succ_eq_append_getElem (by simp; omega)]
  simp only [List.getElem_set_self, List.take_set_of_le (Nat.le_refl _), List.length_cons, List.append_assoc, List.cons_append, List.nil_append]
  rw [List.drop_set_of_lt (by omega)]
  congr 3
  congr 1
  omega
theorem fill_sound {pl : List (Nat × Nat)} {place : Nat → Option (Nat × Nat)} (hp : ∀ i x, pl[i]? = some x → place i = some x) : ∀ {ds : List (Nat × D)} {pvs : List (Nat × Value)} {cs cs' : List D} {vs : List Value},
  RAll M cs vs → pvs.map Prod.fst = ds.map Prod.fst → RAll M (ds.map Prod.snd) (pvs.map Prod.snd) → fillD pl cs ds = some cs' → ds.all (·.2.flat) = true →
  ∃ vs', Instr.fill place (List.toArray vs) pvs = some (List.toArray vs') ∧ RAll M cs' vs'
 | [], [], cs, cs', vs, h, _, _, hf, _ => by simp only [fillD] at hf; cases hf; exact ⟨vs, rfl, h⟩
 | (i, d) :: ds, (j, v) :: pvs, cs, cs', vs, h, he, hr, hf, ha => by
  simp only [List.map_cons, List.cons.injEq] at he
  obtain ⟨rfl, he⟩ := he
  simp only [List.map_cons, RAll] at hr
  simp only [List.all_cons, Bool.and_eq_true] at ha
  simp only [fillD] at hf
  split at hf
  ·rename_i off n hpl
   split at hf
   ·rename_i hc
    have hcells := R_cells hr.1 ha.1
    have hl1 := hcells.length
    have hl2 := h.length
    have hsz : v.cells.size = n := by rw [← hc.1, hl1]; simp
    have hput : RAll M (putCells cs off d.cellsOf) (vs.take off ++ v.cells.toList ++ vs.drop (off + v.cells.toList.length)) := by
     unfold putCells
     rw [hl1]
     exact ((h.take off).append hcells).append (h.drop _)
    obtain ⟨vs', h1, h2⟩ := fill_sound hp hput he hr.2 hf ha.2
    refine ⟨vs', ?_, h2⟩
    simp only [Instr.fill, hp _ _ hpl]
    rw [if_neg (by simp [hsz]; omega)]
    rw [← h1]
    congr 1
    have := foldl_set off v.cells.toList 0 vs (by simp [hsz]; omega)
    simp only [Nat.add_zero] at this
    rw [← this, ← Array.foldl_toList]
    simp
   ·cases hf
  ·cases hf
 | [], _ :: _, _, _, _, _, he, _, _, _ => by simp at he
 | _ :: _, [], _, _, _, _, he, _, _, _ => by simp at he
theorem run_mapM_list {α β : Type} {f : α → Sem β} {g : α → Option β} : ∀ {l : List α} {bs : List β}, l.mapM g = some bs → (∀ a b, a ∈ l → g a = some b → (f a).run P w = .ok b w) → (l.mapM f).run P w = .ok bs w
 | [], bs, h, _ => by simp at h; subst h; rfl
 | a :: l, bs, h, hf => by
  simp only [List.mapM_cons, Option.bind_eq_bind, Option.bind_eq_some_iff, Option.pure_def, Option.some.injEq] at h
  obtain ⟨b, hb, cs, hcs, rfl⟩ := h
  simp only [List.mapM_cons, Sem.run_bind, hf a b (by simp) hb, Result.andThen_ok, run_mapM_list hcs (fun a b ha hb => hf a b (List.mem_cons_of_mem _ ha) hb), Sem.run_pure]
theorem build_sound {T : TypeId} {ds : List (Nat × D)} {parts : List (Nat × Value)} (h : (qbuild P T ds).1) (he : parts.map Prod.fst = ds.map Prod.fst) (hr : RAll M (ds.map Prod.snd) (parts.map Prod.snd)) :
  ∃ v, (Instr.build T (List.toArray parts)).run P w = .ok v w ∧ R M (qbuild P T ds).2 v := by
 unfold qbuild at h ⊢
 split at h
 ·rename_i z pl hz
  split at h
  ·rename_i cs hf
   unfold zp at hz
   split at hz
   ·rename_i zv fs hzv hu
    split at hz
    ·rename_i pl' hpl
     ·simp only [Option.some.injEq, Prod.mk.injEq] at hz
      obtain ⟨rfl, rfl⟩ := hz
      obtain ⟨vs', h1, h2⟩ := fill_sound (M := M) (place := fun i => (List.toArray pl')[i]?) (by intro i x hx; simpa using hx) (RAll_ofC M _) he hr hf h
      refine ⟨.agg (List.toArray vs'), ?_, by simp only [R]; exact ⟨vs', rfl, h2⟩⟩
      cases hi : P.info? T with
      | none => rw [hi] at hzv; cases hzv
      | some i =>
       rw [hi] at hzv
       have hzv' : i.zero = some zv := by simpa using hzv
       unfold Instr.build
       simp only [Sem.run_bind, zeroValue, run_typeInfo' hi, Result.andThen_ok, hzv', Sem.run_pure, run_underlying' hu]
       rw [Array.mapM_eq_mapM_toList]
       rw [Sem.run_map, run_mapM_list (P := P) (w := w) hpl (fun f b _ hb => by
         simp only [Option.map_eq_some_iff] at hb
         obtain ⟨⟨g, n⟩, hl, rfl⟩ := hb
         simp only [Sem.run_bind, run_sizeOf' hl, Result.andThen_ok, Sem.run_pure])]
       simp only [Result.andThen_ok]
       have e : List.toArray (Value.cells zv).toList = zv.cells := by simp
       rw [e] at h1
       rw [h1]
       rfl
    ·cases hz
   ·rename_i zv n e hzv hu
    split at hz
    ·rename_i x hx
     ·simp only [Option.some.injEq, Prod.mk.injEq] at hz
      obtain ⟨rfl, rfl⟩ := hz
      obtain ⟨g, m⟩ := x
      obtain ⟨vs', h1, h2⟩ := fill_sound (M := M) (place := fun i => some (i * m, m)) (by
        intro i y hy
        rw [List.getElem?_map] at hy
        cases hi : (List.range n)[i]? with
        | none => rw [hi] at hy; cases hy
        | some j =>
          rw [hi] at hy
          have : j = i := by
            rw [List.getElem?_eq_some_iff] at hi
            obtain ⟨_, hi⟩ := hi
            simpa using hi.symm
          subst this
          simpa using hy) (RAll_ofC M _) he hr hf h
      refine ⟨.agg (List.toArray vs'), ?_, by simp only [R]; exact ⟨vs', rfl, h2⟩⟩
      cases hi : P.info? T with
      | none => rw [hi] at hzv; cases hzv
      | some i =>
       rw [hi] at hzv
       have hzv' : i.zero = some zv := by simpa using hzv
       unfold Instr.build
       simp only [Sem.run_bind, zeroValue, run_typeInfo' hi, Result.andThen_ok, hzv', Sem.run_pure, run_underlying' hu, run_sizeOf' hx]
       have e : List.toArray (Value.cells zv).toList = zv.cells := by simp
       rw [e] at h1
       rw [h1]
       rfl
    ·cases hz
   ·cases hz
  ·exact h.elim
 ·exact h.elim
theorem nil_sound {x : D} {a : Value} (h : (qnil x).1) (hx : R M x a) :
  ∃ v, (match a with
  | .pointer none | .nilIface | .nilFunc => runtimePanic .nilDeref
  | .func (.method name) first captured =>
    match (first[0]? : Option Value) with
    | some .nilIface => runtimePanic .nilDeref
    | some (.iface t w) => do
      if (← nilAhead ((← program).types.size + Made.depth) t w name) != some false then
        unsupported (.noEntry "op/nilCheck.the method's receiver behind this interface value is a nil pointer, or cannot be seen to be none, and the arguments act or may panic (ledger 612)")
      pure (.value (.func (.method name) first captured))
    | _ => pure (.value (.func (.method name) first captured))
  | x => pure (.value x) : Sem Next).run P w = .ok (.value v) w ∧ R M (qnil x).2 v := by
 unfold qnil at h ⊢
 split at h
 ·simp only [R] at hx ⊢; subst hx; exact ⟨_, rfl, rfl⟩
 ·have hx' := hx
  simp only [R] at hx'; obtain ⟨b, o, rfl, _⟩ := hx'; exact ⟨_, rfl, hx⟩
 ·have hx' := hx
  simp only [R] at hx'; obtain ⟨b, o, rfl, _⟩ := hx'; exact ⟨_, rfl, hx⟩
 ·have hx' := hx
  simp only [R] at hx'; obtain ⟨b, o, rfl, _⟩ := hx'; exact ⟨_, rfl, hx⟩
 ·exact h.elim
end
end Go.Proofs.YtfjnohmdilmfhaaGreatDoor
/- Own layer, part 6: all quiet operations together; triples over plain data; calls. -/
namespace Go.Proofs.YtfjnohmdilmfhaaGreatDoor
open Go Go.RowKit
set_option linter.unusedSimpArgs false
set_option linter.unusedVariables false
section
variable {P : Program} {M : Mem} {w : World} {σ : Store}
theorem lift_value {s : Sem Value} {v : Value} {w' : World} (h : s.run P w = .ok v w') : (do pure (Next.value (← s)) : Sem Next).run P w = .ok (.value v) w' := by
 simp only [Sem.run_bind, h, Result.andThen_ok, Sem.run_pure]
theorem RAll_map {ρ : Operand → D} {e : Operand → Value} (hρ : ∀ x, R M (ρ x) (e x)) : ∀ (xs : List Operand), RAll M (xs.map ρ) (xs.map e)
 | [] => by simp [RAll]
 | x :: xs => by simp only [List.map_cons, RAll]; exact ⟨hρ x, RAll_map hρ xs⟩
theorem RO_map {ρ : Operand → D} {e : Operand → Value} (hρ : ∀ x, R M (ρ x) (e x)) (x : Option Operand) : RO M (x.map ρ) (x.map e) := by
 cases x
 ·trivial
 ·exact hρ _
theorem map_toArray {α β : Type} (f : α → β) (xs : Array α) : xs.map f = List.toArray (xs.toList.map f) := by
 cases xs; simp
theorem qev_sound (hc : Conc M w σ) {ρ : Operand → D} {e : Operand → Value} (hρ : ∀ x, R M (ρ x) (e x)) (o : Oper) (h : (qev P σ ρ o.op).1) :
  ∃ v, (execOp e o).run P w = .ok (.value v) w ∧ R M (qev P σ ρ o.op).2 v := by
 obtain ⟨dst, op, ty, pos, after, guard⟩ := o
 cases op <;> try exact h.elim
 case move x => exact ⟨e x, rfl, hρ x⟩
 case assign x => exact ⟨e x, rfl, hρ x⟩
 case pick c a b => exact pick_sound h (hρ c) (hρ a) (hρ b)
 case binOp op T x y yt =>
  obtain ⟨v, h1, h2⟩ := bop_sound (w := w) (ox := x) (oy := y) h (hρ x) (hρ y)
  exact ⟨v, lift_value h1, h2⟩
 case unOp op T x =>
  obtain ⟨v, h1, h2⟩ := uop_sound (P := P) (w := w) h (hρ x)
  exact ⟨v, lift_value h1, h2⟩
 case convert s d x =>
  obtain ⟨v, h1, h2⟩ := conv_sound hc h (hρ x)
  exact ⟨v, lift_value h1, h2⟩
 case field T x i =>
  obtain ⟨v, h1, h2⟩ := field_sound (w := w) h (hρ x)
  exact ⟨v, lift_value h1, h2⟩
 case fieldAddr T x i =>
  obtain ⟨v, h1, h2⟩ := faddr_sound (w := w) h (hρ x)
  exact ⟨v, lift_value h1, h2⟩
 case indexAddr T x i =>
  obtain ⟨v, h1, h2⟩ := iaddr_sound (w := w) h (hρ x) (hρ i)
  exact ⟨v, lift_value h1, h2⟩
 case index T x i =>
  obtain ⟨v, h1, h2⟩ := index_sound (w := w) h (hρ x) (hρ i)
  exact ⟨v, lift_value h1, h2⟩
 case load T x =>
  obtain ⟨v, h1, h2⟩ := load_sound hc h (hρ x)
  exact ⟨v, lift_value h1, h2⟩
 case lookup T x i ok =>
  obtain ⟨v, h1, h2⟩ := look_sound hc h (hρ x) (hρ i)
  exact ⟨v, lift_value h1, h2⟩
 case extract x i =>
  obtain ⟨v, h1, h2⟩ := extract_sound (P := P) (w := w) h (hρ x)
  exact ⟨v, lift_value h1, h2⟩
 case build T parts =>
  obtain ⟨v, h1, h2⟩ := build_sound (P := P) (w := w) (M := M) (parts := parts.toList.map fun p => (p.1, e p.2)) h (by simp [Function.comp_def])
   (by
     have := RAll_map hρ (parts.toList.map Prod.snd)
     simpa [Function.comp_def] using this)
  refine ⟨v, lift_value ?_, h2⟩
  rw [map_toArray]
  exact h1
 case makeInterface T x =>
  obtain ⟨v, h1, h2⟩ := iface_sound (w := w) h (hρ x)
  exact ⟨v, lift_value h1, h2⟩
 case makeFunc f fs cs =>
  refine ⟨_, rfl, ?_⟩
  simp only [qev, R, map_toArray]
  exact ⟨_, _, rfl, RAll_map hρ _, RAll_map hρ _⟩
 case slice T x lo hi mx =>
  obtain ⟨v, h1, h2⟩ := slice_sound (w := w) h (hρ x) (RO_map hρ lo) (RO_map hρ hi) (RO_map hρ mx)
  exact ⟨v, lift_value h1, h2⟩
 case nilCheck x => exact nil_sound h (hρ x)
 case sliceToArrayPointer T x =>
  obtain ⟨v, h1, h2⟩ := sap_sound (w := w) h (hρ x)
  exact ⟨v, lift_value h1, h2⟩
 case call c =>
  obtain ⟨callee, xs, ts⟩ := c
  cases callee <;> try exact h.elim
  rename_i b
  obtain ⟨v, h1, h2⟩ := builtin_sound (w := w) (σ := σ) (T := ty) (cs := xs.map fun | .const _ => true | _ => false) h (RAll_map hρ xs.toList)
  refine ⟨v, ?_, h2⟩
  simp only [execOp, resolve, Sem.run_bind, Sem.run_pure, Result.andThen_ok, invoke, map_toArray e]
  exact h1
end
/-! ### Triples -/
abbrev WF (r : Option Nat) : Fence := { Fence.wide with round := r }
abbrev Env := Nat → D
def Env.set (e : Env) (i : Nat) (d : D) : Env := fun j => if j = i then d else e j
def Env.put (e : Env) (i : Option Nat) (d : D) : Env := match i with
 | some i => e.set i d
 | none => e
/-- An environment by its entries. -/
def mk : List (Nat × D) → Env
 | [] => fun _ => .top
 | (i, d) :: l => fun j => if j = i then d else mk l j
def EnvR (M : Mem) (nt : Nat) (env : Env) (a : Act) : Prop := a.tmps.size = nt ∧ ∀ i, R M (env i) (a.tmps.getD i undef)
theorem EnvR.mono {M M' : Mem} (h : Mem.le M M') {nt : Nat} {env : Env} {a : Act} (he : EnvR M nt env a) : EnvR M' nt env a :=
 ⟨he.1, fun i => (he.2 i).mono h _ _⟩
theorem EnvR.put {M : Mem} {nt : Nat} {env : Env} {a : Act} (he : EnvR M nt env a) {dst : Option Nat} (hd : dst.all (· < nt) = true) {d : D} {v : Value} (hv : R M d v) : EnvR M nt (env.put dst d) (a.put dst v) := by
 cases dst with
 | none => exact he
 | some i =>
  simp only [Option.all_some, decide_eq_true_eq] at hd
  refine ⟨by simp [Act.put, he.1], fun j => ?_⟩
  simp only [Env.put, Env.set, Act.put]
  by_cases e : j = i
  ·subst e
   rw [if_pos rfl]
   have : (a.tmps.setIfInBounds j v).getD j undef = v := by
    simp [Array.getD, Array.size_setIfInBounds, he.1, hd]
   rw [this]
   exact hv
  ·rw [if_neg e]
   have : (a.tmps.setIfInBounds i v).getD j undef = a.tmps.getD j undef := by
    simp only [Array.getD_eq_getD_getElem?, Array.getElem?_setIfInBounds]
    rw [if_neg (fun h => e h.symm)]
   rw [this]
   exact he.2 j
/-- An operand as plain data. -/
def opd (env : Env) : Operand → D
 | .tmp t => env t
 | .const v => .ofV v
 | .global g => .v (.pointer (some ⟨g, 0, none⟩))
 | .func f => .fn (.func f) [] []
theorem opd_R {M : Mem} {nt : Nat} {env : Env} {a : Act} (he : EnvR M nt env a) (x : Operand) : R M (opd env x) (a.eval x) := by
 cases x with
 | tmp t => exact he.2 t
 | const v => exact R_ofV M v
 | global g => simp only [opd, R]; rfl
 | func f => simp only [opd, R]; exact ⟨[], [], rfl, by simp [RAll], by simp [RAll]⟩
inductive AE where
 | normal | exit (id : Nat) | goto (l : Nat) | ret | pan (d : D)
def AER (M : Mem) : AE → Exit → Prop
 | .normal, .normal => True
 | .exit i, .exit j => i = j
 | .goto i, .goto j => i = j
 | .ret, .ret => True
 | .pan d, .panic [c] => ∃ v, c = { v, recovered := false } ∧ R M d v
 | _, _ => False
/-- The marks that loops over functions leave for the function's end (before what was deferred already). -/
def DefOK (B : Nat × List Deferred) (σ : Store) (w : World) (ds : List Deferred) : Prop :=
 B.1 ≤ w.heap.size ∧ ∃ Ds : List Nat, ds = Ds.map (fun D => { target := .collected D, args := #[] }) ++ B.2 ∧ Ds.Nodup ∧ ∀ D ∈ Ds, B.1 ≤ D ∧ w.heap[D]? = some (.deferred (some [])) ∧ D ∉ σ.keys
theorem DefOK.base {n : Nat} {ds : List Deferred} {σ : Store} {w : World} (h : n ≤ w.heap.size) : DefOK (n, ds) σ w ds := ⟨h, [], rfl, List.nodup_nil, by simp⟩
theorem DefOK.nil {n : Nat} {σ : Store} {w : World} (h : n ≤ w.heap.size) : DefOK (n, []) σ w [] := DefOK.base h
theorem DefOK.step {B : Nat × List Deferred} {M M' : Mem} {w w' : World} {σ σ' : Store} {ds : List Deferred} (h : DefOK B σ w ds) (s : Step M w σ M' w' σ') : DefOK B σ' w' ds := by
 obtain ⟨hB, Ds, e, hn, hd⟩ := h
 refine ⟨Nat.le_trans hB s.size, Ds, e, hn, fun D hD => ?_⟩
 obtain ⟨h0, h1, h2⟩ := hd D hD
 have hlt : D < w.heap.size := (Array.getElem?_eq_some_iff.1 h1).1
 exact ⟨h0, (s.block D hlt h2).trans h1, fun hc => (s.keys D hc).elim h2 (fun hs => by omega)⟩
/-- What a triple owes at the end of a piece of code. -/
def rgPost (M : Mem) (w : World) (σ : Store) (nt : Nat) (B : Nat × List Deferred) (Q : AE → Env → Store → Prop) : Exit → Act → World → Prop :=
 fun e a' w' => ∃ M' env' σ' ae, Step M w σ M' w' σ' ∧ Conc M' w' σ' ∧ EnvR M' nt env' a' ∧ DefOK B σ' w' a'.defers ∧ AER M' ae e ∧ Q ae env' σ'
def AWp (P : Program) (r : Option Nat) (nt : Nat) (c : Code) (env : Env) (σ : Store) (Q : AE → Env → Store → Prop) : Prop :=
 ∀ M w a B, Conc M w σ → EnvR M nt env a → DefOK B σ w a.defers → c.wpIn (WF r) 0 P (rgPost M w σ nt B Q) a w
/-- How a call ends. -/
inductive Res where
 | ret (d : D) | pan (d : D)
def ResR (M : Mem) : Res → Ending → Prop
 | .ret d, .returned v => R M d v
 | .pan d, .panicked [c] => ∃ v, c = { v, recovered := false } ∧ R M d v
 | _, _ => False
/-- A call of a function value's code with all its arguments (first, own, captured). -/
def CallsV (P : Program) (f : Fn) (vs : Array Value) (w : World) (Q : Ending → World → Prop) : Prop :=
 match f with
 | .func g => ((callFunc g vs).run P w = .ok (.enter g vs) w ∧ CallsIn Fence.wide 0 P g vs w Q) ∨ ∃ v w', (callFunc g vs).run P w = .ok (.value v) w' ∧ Q (.returned v) w'
 | .yield l => ∃ fn tmps assign body, (Instr.yield l vs).run P w = .ok (.round l fn tmps assign body) w ∧ RoundIn Fence.wide 0 P l fn tmps assign body w Q
 | _ => False
def ACall (P : Program) (f : Fn) (args : List D) (σ : Store) (Q : Res → Store → Prop) : Prop :=
 ∀ M w vs, Conc M w σ → RAll M args vs →
  CallsV P f (List.toArray vs) w fun e w' => ∃ M' σ' r, Step M w σ M' w' σ' ∧ Conc M' w' σ' ∧ ResR M' r e ∧ Q r σ'
/-- A call that computes: its result, and the store as it was. -/
def PCall (P : Program) (f : Fn) (args : List D) (d : D) : Prop := ACall P f args [] fun r σ' => r = .ret d ∧ σ' = []
end Go.Proofs.YtfjnohmdilmfhaaGreatDoor
/- Own layer, part 7: how the store and the memory change; frames of calls. -/
namespace Go.Proofs.YtfjnohmdilmfhaaGreatDoor
open Go Go.RowKit
set_option linter.unusedSimpArgs false
set_option linter.unusedVariables false
section
variable {P : Program} {M : Mem} {w w' : World} {σ : Store}
theorem CallsV.mono {f : Fn} {vs : Array Value} {Q Q' : Ending → World → Prop} (h : CallsV P f vs w Q) (hq : ∀ e w', Q e w' → Q' e w') : CallsV P f vs w Q' := by
 cases f with
 | func g => exact h.imp (fun h => ⟨h.1, h.2.mono hq⟩) (fun ⟨v, w', h1, h2⟩ => ⟨v, w', h1, hq _ _ h2⟩)
 | yield l => obtain ⟨fn, t, a, b, h1, h2⟩ := h; exact ⟨fn, t, a, b, h1, h2.mono hq⟩
 | method _ => exact h
 | methodOf _ _ => exact h
 | via _ _ _ _ => exact h
theorem ACall.mono {f : Fn} {args : List D} {Q Q' : Res → Store → Prop} (h : ACall P f args σ Q) (hq : ∀ r σ', Q r σ' → Q' r σ') : ACall P f args σ Q' :=
 fun M w vs hc hr => (h M w vs hc hr).mono fun _ _ ⟨M', σ', r, h1, h2, h3, h4⟩ => ⟨M', σ', r, h1, h2, h3, hq _ _ h4⟩
/-- Calls may forget boxes at their end. -/
theorem ACall.sub {f : Fn} {args : List D} {Q : Res → Store → Prop} (h : ACall P f args σ fun r σ1 => ∃ σ2 : Store, σ2.Sublist σ1 ∧ Q r σ2) : ACall P f args σ Q :=
 fun M w vs hc hr => (h M w vs hc hr).mono fun _ _ ⟨M', σ', r, h1, h2, h3, σ2, h4, h5⟩ => ⟨M', σ2, r, h1.sub h4, h2.sub h4, h3, h5⟩
theorem Store.keys_append (σ ρ : Store) : Store.keys (σ ++ ρ) = σ.keys ++ ρ.keys := by simp [Store.keys]
/-- THE FRAME: what a call does not see it leaves as it was. -/
theorem ACall.frame {f : Fn} {args : List D} {Q : Res → Store → Prop} (ρ : Store) (h : ACall P f args σ Q) :
  ACall P f args (σ ++ ρ) fun r σ' => ∃ σ1, σ' = σ1 ++ ρ ∧ Q r σ1 := by
 intro M w vs hc hr
 have hn := hc.nodup
 rw [Store.keys_append] at hn
 have hd := (List.nodup_append.1 hn).2.2
 have hc1 : Conc M w σ := hc.sub (List.sublist_append_left σ ρ)
 refine (h M w vs hc1 hr).mono ?_
 rintro e w' ⟨M', σ1, r, hs, hc', hr', hq⟩
 have hout : ∀ b, b ∈ ρ.keys → b ∉ σ.keys := fun b hb hb' => hd b hb' b hb rfl
 have hlt : ∀ b, b ∈ ρ.keys → b < w.heap.size := fun b hb => hc.lt (by rw [Store.keys_append]; exact List.mem_append_right _ hb)
 have hdis : ∀ b, b ∈ σ1.keys → b ∉ ρ.keys := fun b hb hb' => (hs.keys b hb).elim (hout b hb') (fun h => by have := hlt b hb'; omega)
 refine ⟨M', σ1 ++ ρ, r, ?_, ?_, hr', σ1, rfl, hq⟩
 ·refine { le := hs.le, os := hs.os, tape := hs.tape, output := hs.output, size := hs.size, block := ?_, keys := ?_, grow := ?_ }
  ·intro b hb hn'
   rw [Store.keys_append] at hn'
   exact hs.block b hb (fun h => hn' (List.mem_append_left _ h))
  ·intro b hb
   rw [Store.keys_append] at hb ⊢
   rcases List.mem_append.1 hb with hb | hb
   ·exact (hs.keys b hb).imp (List.mem_append_left _) id
   ·exact .inl (List.mem_append_right _ hb)
  ·intro b o x hx
   rw [Store.keys_append]
   rcases hs.grow b o x hx with h | h | h
   ·exact .inl h
   ·exact .inr (.inl h)
   ·exact .inr (.inr (List.mem_append_left _ h))
 ·refine ⟨hc'.mem, ?_, ?_, hc.glob.of (fun b hb hn' => hs.block b hb fun h => hn' (by rw [Store.keys_append]; exact List.mem_append_left _ h)) (fun b hb => by
    rw [Store.keys_append] at hb ⊢
    exact (List.mem_append.1 hb).elim (fun h => (hs.keys b h).imp (List.mem_append_left _) id) (fun h => .inl (List.mem_append_right _ h)))⟩
  ·rw [Store.keys_append]
   exact List.nodup_append.2 ⟨hc'.nodup, (List.nodup_append.1 hn).2.1, fun a ha b hb e => hdis a ha (e ▸ hb)⟩
  ·intro b x hb
   rcases List.mem_append.1 hb with hb | hb
   ·exact hc'.box b x hb
   ·have hbk : b ∈ ρ.keys := List.mem_map_of_mem (f := Prod.fst) hb
    refine (hc.box b x (List.mem_append_right _ hb)).mono hs.le ?_ (hs.block b (hlt b hbk) (hout b hbk))
    intro o v hv
    rcases hs.grow b o v hv with h | h | h
    ·exact h
    ·have := hlt b hbk; omega
    ·exact absurd h (hout b hbk)
theorem PCall.at {f : Fn} {args : List D} {d : D} (h : PCall P f args d) (σ : Store) : ACall P f args σ fun r σ' => r = .ret d ∧ σ' = σ := by
 have := ACall.frame σ h
 exact ACall.mono this fun r _ ⟨σ1, h1, h2, h3⟩ => ⟨h2, by rw [h1, h3]; rfl⟩
/-! ### New blocks -/
theorem alloc_heap_old (w : World) (o : Obj) {b : Nat} (h : b < w.heap.size) : (w.alloc o).heap[b]? = w.heap[b]? := Below.heap_alloc w o b h
theorem alloc_heap_new (w : World) (o : Obj) : (w.alloc o).heap[w.heap.size]? = some o := by
 show (w.heap.push o)[w.heap.size]? = _
 simp
theorem Conc.mem_none (hc : Conc M w σ) (o : Nat) : M w.heap.size o = none := by
 cases e : M w.heap.size o with
 | none => rfl
 | some x => have := hc.memLt e; omega
theorem cell?_alloc (w : World) (o : Obj) {b i : Nat} (h : b < w.heap.size) : (w.alloc o).cell? ⟨b, i, none⟩ = w.cell? ⟨b, i, none⟩ := by
 simp only [World.cell?, alloc_heap_old w o h]
/-- A new block that is a box of its own. -/
theorem Conc.newBox (hc : Conc M w σ) {o : Obj} {x : Box} (hb : BoxR M (w.alloc o) w.heap.size x) :
  Conc M (w.alloc o) ((w.heap.size, x) :: σ) ∧ Step M w σ M (w.alloc o) ((w.heap.size, x) :: σ) ∧ w.heap.size ∉ σ.keys := by
 have hk : w.heap.size ∉ σ.keys := fun h => by have := hc.lt h; omega
 refine ⟨⟨fun b i v h => by rw [cell?_alloc w o (hc.memLt h)]; exact hc.mem b i v h, ?_, ?_, hc.glob.of (fun b hb _ => alloc_heap_old w o hb) (fun b hb => by
   simp only [Store.keys, List.map_cons, List.mem_cons] at hb
   exact hb.elim (fun e => .inr (by omega)) .inl)⟩, ?_, hk⟩
 ·simp only [Store.keys, List.map_cons, List.nodup_cons]
  exact ⟨hk, hc.nodup⟩
 ·intro b y hy
  rcases List.mem_cons.1 hy with hy | hy
  ·cases hy; exact hb
  ·exact (hc.box b y hy).mono (Mem.le.refl _) (fun _ _ h => h) (alloc_heap_old w o (hc.box b y hy).lt)
 ·exact { le := Mem.le.refl _, os := rfl, tape := rfl, output := rfl, size := by simp, block := fun b hb _ => alloc_heap_old w o hb,
          keys := fun b hb => by
            simp only [Store.keys, List.map_cons, List.mem_cons] at hb
            exact hb.elim (fun e => .inr (by omega)) .inl,
          grow := fun _ _ _ h => .inl h }
def Mem.add (M : Mem) (b : Nat) (vs : List Value) : Mem := fun b' o => if b' = b then vs[o]? else M b' o
theorem RCells_of (M : Mem) (b : Nat) : ∀ {cs : List D} {vs : List Value} (o : Nat), RAll M cs vs → (∀ i v, vs[i]? = some v → M b (o + i) = some v) → RCells M cs b o
 | [], _, _, _, _ => by simp only [RCells]
 | c :: cs, v :: vs, o, h, hm => by
  simp only [RAll] at h
  simp only [RCells]
  refine ⟨⟨v, by simpa using hm 0 v rfl, h.1⟩, RCells_of M b (o + 1) h.2 fun i u hu => ?_⟩
  have := hm (i + 1) u (by simpa using hu)
  rwa [show o + 1 + i = o + (i + 1) from by omega]
 | _ :: _, [], _, h, _ => by simp [RAll] at h
/-- A new block that nobody will write to again. -/
theorem Conc.newImm (hc : Conc M w σ) (vs : List Value) (T : TypeId) (fz : Nat × Nat) :
  Conc (M.add w.heap.size vs) (w.alloc (.cells (List.toArray vs) T fz)) σ ∧ Step M w σ (M.add w.heap.size vs) (w.alloc (.cells (List.toArray vs) T fz)) σ ∧
  (∀ i v, vs[i]? = some v → M.add w.heap.size vs w.heap.size i = some v) := by
 have hle : Mem.le M (M.add w.heap.size vs) := fun b o x h => by
  unfold Mem.add
  rw [if_neg (by have := hc.memLt h; omega)]
  exact h
 have hg : ∀ b o x, M.add w.heap.size vs b o = some x → M b o = some x ∨ w.heap.size ≤ b := fun b o x h => by
  unfold Mem.add at h
  split at h
  ·exact .inr (by omega)
  ·exact .inl h
 refine ⟨⟨?_, hc.nodup, ?_, hc.glob.of (fun b hb _ => alloc_heap_old w _ hb) (fun b hb => .inl hb)⟩, ?_, fun i v h => by unfold Mem.add; rw [if_pos rfl]; exact h⟩
 ·intro b i v h
  unfold Mem.add at h
  split at h
  ·rename_i e; subst e
   simp only [World.cell?, alloc_heap_new]
   simpa using h
  ·rw [cell?_alloc w _ (hc.memLt h)]; exact hc.mem b i v h
 ·intro b y hy
  have hlt := (hc.box b y hy).lt
  refine (hc.box b y hy).mono hle (fun o v h => (hg b o v h).resolve_right (by omega)) (alloc_heap_old w _ hlt)
 ·exact { le := hle, os := rfl, tape := rfl, output := rfl, size := by simp, block := fun b hb _ => alloc_heap_old w _ hb, keys := fun b hb => .inl hb,
          grow := fun b o x h => (hg b o x h).imp id .inl }
/-- A box is turned in place. -/
theorem Conc.turn (hc : Conc M w σ) {b : Nat} {y : Box} (hb : b ∈ σ.keys) (hsz : w'.heap.size = w.heap.size) (ho : w'.os = w.os) (ht : w'.tape = w.tape) (hu : w'.output = w.output)
  (hk : ∀ k, k ≠ b → w'.heap[k]? = w.heap[k]?) (hm : ∀ o v, M b o = some v → w'.cell? ⟨b, o, none⟩ = some v) (hy : BoxR M w' b y) :
  Conc M w' (σ.upd b y) ∧ Step M w σ M w' (σ.upd b y) := by
 refine ⟨⟨?_, by rw [Store.keys_upd]; exact hc.nodup, ?_, hc.glob.of (fun c _ hn => hk c (fun e => hn (e ▸ hb))) (fun c h => .inl (by rwa [Store.keys_upd] at h))⟩, ?_⟩
 ·intro c o v h
  by_cases e : c = b
  ·subst e; exact hm o v h
  ·have : w'.cell? ⟨c, o, none⟩ = w.cell? ⟨c, o, none⟩ := by simp only [World.cell?, hk c e]
   rw [this]; exact hc.mem c o v h
 ·intro c z hz
  rcases Store.mem_upd hc.nodup hz with ⟨rfl, rfl, _⟩ | ⟨h1, h2⟩
  ·exact hy
  ·exact (hc.box c z h2).mono (Mem.le.refl _) (fun _ _ h => h) (hk c h1)
 ·exact { le := Mem.le.refl _, os := ho, tape := ht, output := hu, size := by omega, block := fun c _ hn => hk c (fun e => hn (e ▸ hb)),
          keys := fun c h => .inl (by rwa [Store.keys_upd] at h), grow := fun _ _ _ h => .inl h }
theorem Conc.drew (hc : Conc M w σ) : Conc M w.drew σ := ⟨hc.mem, hc.nodup, fun b x h => (hc.box b x h).mono (Mem.le.refl _) (fun _ _ h => h) rfl, hc.glob.of (fun _ _ _ => rfl) (fun _ h => .inl h)⟩
theorem Step.drew (M : Mem) (w : World) (σ : Store) : Step M w σ M w.drew σ :=
 ⟨Mem.le.refl _, rfl, rfl, rfl, Nat.le_refl _, fun _ _ _ => rfl, fun _ h => .inl h, fun _ _ _ h => .inl h⟩
theorem Conc.fresh (hc : Conc M w σ) : w.heap.size ∉ σ.keys := fun h => by have := hc.lt h; omega
/-! ### Stores -/
structure Wr (w w' : World) (b : Nat) : Prop where
 size : w'.heap.size = w.heap.size
 os : w'.os = w.os
 tape : w'.tape = w.tape
 output : w'.output = w.output
 other : ∀ k, k ≠ b → w'.heap[k]? = w.heap[k]?
theorem Wr.refl (w : World) (b : Nat) : Wr w w b := ⟨rfl, rfl, rfl, rfl, fun _ _ => rfl⟩
theorem Wr.trans {a b c : World} {k : Nat} (h : Wr a b k) (h' : Wr b c k) : Wr a c k :=
 ⟨h'.size.trans h.size, h'.os.trans h.os, h'.tape.trans h.tape, h'.output.trans h.output, fun i hi => (h'.other i hi).trans (h.other i hi)⟩
theorem Wr.setCell (w : World) (b o : Nat) (v : Value) : Wr w (w.setCell ⟨b, o, none⟩ v) b :=
 ⟨by simp, rfl, rfl, rfl, fun k hk => Below.heap_setCell w ⟨b, o, none⟩ v k hk⟩
theorem setCell_heap {w : World} {b o : Nat} {vs : List Value} {T : TypeId} {fz : Nat × Nat} (h : w.heap[b]? = some (.cells (List.toArray vs) T fz)) (v : Value) :
  (w.setCell ⟨b, o, none⟩ v).heap[b]? = some (.cells (List.toArray (vs.set o v)) T fz) := by
 simp only [World.setCell, Array.getElem?_modify, if_pos, h]
 simp
theorem run_storeCells {b : Nat} {T : TypeId} : ∀ (xs : List Value) (w : World) (vs : List Value) (o i : Nat), w.heap[b]? = some (.cells (List.toArray vs) T (0, 0)) → o + i + xs.length ≤ vs.length → (∀ x ∈ xs, x.oneCell' = true) →
  ∃ w', (storeCells ⟨b, o, none⟩ xs i).run P w = .ok () w' ∧ Wr w w' b ∧ w'.heap[b]? = some (.cells (List.toArray (vs.take (o + i) ++ xs ++ vs.drop (o + i + xs.length))) T (0, 0))
 | [], w, vs, o, i, h, _, _ => ⟨w, rfl, Wr.refl _ _, by simpa using h⟩
 | x :: xs, w, vs, o, i, h, hl, hx => by
  simp only [List.length_cons] at hl
  have hc : w.cell? ⟨b, o + i, none⟩ = some (vs[o + i]'(by omega)) := by
   simp [World.cell?, h, show o + i < vs.length from by omega]
  have hf : w.frozen? ⟨b, o + i, none⟩ = false := by simp [World.frozen?, h]
  obtain ⟨w', h1, h2, h3⟩ := run_storeCells xs (w.setCell ⟨b, o + i, none⟩ x) (vs.set (o + i) x) o (i + 1) (setCell_heap h x) (by simp; omega) (fun y hy => hx y (List.mem_cons_of_mem _ hy))
  refine ⟨w', ?_, (Wr.setCell w b (o + i) x).trans h2, ?_⟩
  ·simp only [storeCells, Sem.run_bind, addr_add]
   rw [run_store P w _ x _ (hx x (by simp))]
   simp only [hc, hf, Bool.false_eq_true, if_false, Result.andThen_ok]
   exact h1
  ·rw [h3]
   congr 2
   rw [show o + (i + 1) = (o + i) + 1 from by omega]
   rw [List.take_succ_eq_append_getElem (by simp; omega)]
   simp only [List.getElem_set_self, List.take_set_of_le (Nat.le_refl _), List.length_cons, List.append_assoc, List.cons_append, List.nil_append]
   rw [List.drop_set_of_lt (by omega), show o + i + 1 + xs.length = o + i + (xs.length + 1) from by omega]
theorem RAll_cell {M : Mem} : ∀ {cs : List D} {vs : List Value}, RAll M cs vs → cs.all D.isCell = true → ∀ x ∈ vs, x.oneCell' = true
 | [], [], _, _, _, h => by simp at h
 | c :: cs, v :: vs, h, hc, x, hx => by
  simp only [RAll] at h
  simp only [List.all_cons, Bool.and_eq_true] at hc
  rcases List.mem_cons.1 hx with rfl | hx
  ·exact h.1.oneCell hc.1
  ·exact RAll_cell h.2 hc.2 x hx
 | [], _ :: _, h, _, _, _ => by simp [RAll] at h
 | _ :: _, [], h, _, _, _ => by simp [RAll] at h
end
end Go.Proofs.YtfjnohmdilmfhaaGreatDoor
/- Own layer, part 8: operations that make or change memory, or call; what they do to plain data and the store. -/
namespace Go.Proofs.YtfjnohmdilmfhaaGreatDoor
open Go Go.RowKit
set_option linter.unusedSimpArgs false
set_option linter.unusedVariables false
/-- The zero cells of a type. -/
def zc (P : Program) (T : TypeId) : Option (List D) :=
 match (P.info? T).bind (·.zero) with
 | some z => if (z.cells.toList.map D.ofC).all D.isCell then some (z.cells.toList.map D.ofC) else none
 | none => none
/-- The bytes of a slice's element. -/
def eby (P : Program) (T : TypeId) : Option Nat :=
 match P.underlying T with
 | some (.slice e) => (P.info? e).map (·.bytes)
 | _ => none
def szOf (P : Program) (T : TypeId) : Option Nat := (lsz P T).map (·.2)
def zrep (z : List D) : Nat → List D
 | 0 => []
 | n + 1 => z ++ zrep z n
def pls (sz len : Nat) : List (Nat × Nat) := (List.range len).map fun i => (i * sz, sz)
def Store.ren : Store → Nat → Nat → Box → Store
 | [], _, _, _ => []
 | (b, x) :: σ, c, c', y => if c = b then (c', y) :: σ else (b, x) :: Store.ren σ c c' y
def rowsOf (σ : Store) (d : D) : Option (Nat × List (List D)) :=
 match d with
 | .sl sz rows _ => some (sz, rows)
 | .str s => some (1, s.map fun c => [.int .u8 (c.toNat : Int)])
 | .arr b sz n _ => match σ.get b with
  | some (.arr sz' rows _) => if sz = sz' ∧ n ≤ rows.length then some (sz, rows.take n) else none
  | _ => none
 | .v (.slice (some ⟨b, o, none⟩) n _) => match σ.get b with
  | some (.arr sz rows _) => if 0 < sz ∧ o % sz = 0 ∧ o / sz + n ≤ rows.length then some (sz, (rows.drop (o / sz)).take n) else none
  | _ => none
 | _ => none
def capB : Nat := 140737488355328
/-- append. -/
def napp (P : Program) (σ : Store) (ts : Array TypeId) (s x : D) (K : D → Store → Prop) : Prop :=
 match ts[0]?.bind (sle P), ts[0]?.bind (eby P), s, rowsOf σ x with
 | some (e, _, sz), some by_, .sl sz0 rows tk, some (sz1, new) =>
  ((∃ z, zc P e = some z ∧ z.length = sz) ∧ (∃ t1, ts[1]? = some t1 ∧ ((sle P t1).isSome = true ∨ isStrT P t1 = true)) ∧ 0 < sz ∧ 0 < by_ ∧ (rows = [] ∨ sz0 = sz) ∧ (new = [] ∨ sz1 = sz) ∧ new.all (·.all D.isCell) = true ∧ (rows.length + new.length) * by_ ≤ capB) ∧
  match tk with
  | .own b cap =>
   (sz0 = sz ∧ σ.get b = some (.tail sz rows.length cap)) ∧
   ∀ b' cap', (b' = b ∨ b' ∉ σ.keys) → K (.sl sz (rows ++ new) (.own b' cap')) (σ.ren b b' (.tail sz (rows.length + new.length) cap'))
  | .nil => (new = [] → K (.sl sz [] .nil) σ) ∧ (new ≠ [] → ∀ b cap, b ∉ σ.keys → K (.sl sz new (.own b cap)) ((b, .tail sz new.length cap) :: σ))
  | .full => (new = [] → K (.sl sz0 rows .full) σ) ∧ (new ≠ [] → ∀ b cap, b ∉ σ.keys → K (.sl sz (rows ++ new) (.own b cap)) ((b, .tail sz (rows.length + new.length) cap) :: σ))
  | .no => False
 | _, _, _, _ => False
/-- append, to rows that are written to. -/
def nappM (P : Program) (σ : Store) (ts : Array TypeId) (s x : D) (K : D → Store → Prop) : Prop :=
 match ts[0]?.bind (sle P), ts[0]?.bind (eby P), rowsOf σ x with
 | some (e, _, sz), some by_, some (sz1, new) =>
  ((∃ z, zc P e = some z ∧ z.length = sz) ∧ (∃ t1, ts[1]? = some t1 ∧ ((sle P t1).isSome = true ∨ isStrT P t1 = true)) ∧ 0 < sz ∧ 0 < by_ ∧ (new = [] ∨ sz1 = sz) ∧ new.all (·.all D.isCell) = true) ∧
  match s with
  | .sl sz0 rows tk => ((tk = .nil ∨ tk = .full) ∧ (rows = [] ∨ sz0 = sz) ∧ rows.all (·.all D.isCell) = true ∧ (rows.length + new.length) * by_ ≤ capB) ∧
    (new = [] → K (.sl sz0 rows tk) σ) ∧ (new ≠ [] → ∀ b cap, b ∉ σ.keys → rows.length + new.length ≤ cap → K (.arr b sz (rows.length + new.length) cap) ((b, .arr sz (rows ++ new) cap) :: σ))
  | .arr b sz0 n cap => match σ.get b with
   | some (.arr sz2 rows cap2) => (sz0 = sz ∧ sz2 = sz ∧ cap2 = cap ∧ n ≤ rows.length ∧ (n + new.length) * by_ ≤ capB) ∧
     (n + new.length ≤ cap → K (.arr b sz (n + new.length) cap) (σ.upd b (.arr sz (rows.take n ++ new ++ rows.drop (n + new.length)) cap))) ∧
     (cap < n + new.length → ∀ b' cap', b' ∉ σ.keys → n + new.length ≤ cap' → K (.arr b' sz (n + new.length) cap') (σ.ren b b' (.arr sz (rows.take n ++ new) cap')))
   | _ => False
  | _ => False
 | _, _, _ => False
/-- append of zeros, to nothing. -/
def nappZ (P : Program) (σ : Store) (ts : Array TypeId) (s x : D) (K : D → Store → Prop) : Prop :=
 match ts[0]?.bind (sle P), ts[0]?.bind (eby P), ts[1]?.bind (ink P), s, x with
 | some (e, _, sz), some by_, some _, .sl _ [] .nil, .int .i64 n => match zc P e with
  | some z => (z.length = sz ∧ 0 < sz ∧ 0 < by_ ∧ 0 < n ∧ n * by_ ≤ capB) ∧ ∀ b cap, b ∉ σ.keys → n.toNat ≤ cap → K (.arr b sz n.toNat cap) ((b, .arr sz (List.replicate n.toNat z) cap) :: σ)
  | none => False
 | _, _, _, _, _ => False
/-- A store through a pointer. -/
def nstore (P : Program) (σ : Store) (T : TypeId) (a x : D) (K : D → Store → Prop) : Prop :=
 match a, szOf P T with
 | .ptr b o, some n => match σ.get b with
  | some (.cells cs) => (x.flat = true ∧ x.cellsOf.all D.isCell = true ∧ x.cellsOf.length = n ∧ o + n ≤ cs.length) ∧ K (.v undef) (σ.upd b (.cells (putCells cs o x.cellsOf)))
  | some (.arr sz rows cap) => (x.flat = true ∧ x.cellsOf.all D.isCell = true ∧ x.cellsOf.length = n ∧ o % sz + n ≤ sz ∧ o / sz < rows.length) ∧
    K (.v undef) (σ.upd b (.arr sz (rows.set (o / sz) (putCells (rows.getD (o / sz) []) (o % sz) x.cellsOf)) cap))
  | _ => False
 | _, _ => False
/-- An entry of a map. -/
def nput (P : Program) (σ : Store) (T : TypeId) (m k x : D) (K : D → Store → Prop) : Prop :=
 match m, mpt P T with
 | .mp b, some (kt, _) => match σ.get b with
  | some (.map es) => match mput k x es with
   | some es' => keyOK P kt k = true ∧ K (.v undef) (σ.upd b (.map es'))
   | none => False
  | _ => False
 | _, _ => False
/-- copy into the cells of a box: both are of the same length. -/
def ncopy (P : Program) (σ : Store) (ts : Array TypeId) (d x : D) (K : D → Store → Prop) : Prop :=
 match ts[0]?.bind (sle P), d, rowsOf σ x with
 | some (_, _, sz), .v (.slice (some ⟨b, o, none⟩) n _), some (sz1, new) => match σ.get b with
  | some (.cells cs) => ((new = [] ∨ sz1 = sz) ∧ new.all (·.all D.isCell) = true ∧ new.length = n ∧ o + n * sz ≤ cs.length) ∧ K .top (σ.upd b (.cells (putCells cs o new.flatten)))
  | _ => False
 | _, _, _ => False
def isYield : Fn → Bool
 | .yield _ => true
 | _ => false
def nev (P : Program) (imm : Bool) (σ : Store) (ρ : Operand → D) (K X : D → Store → Prop) : Op → Prop
 | .alloc T => match zc P T with
  | some cs => bif imm then K (.el cs) σ else ∀ b, b ∉ σ.keys → K (.ptr b 0) ((b, .cells cs) :: σ)
  | none => False
 | .box _ x => ((ρ x).flat = true ∧ (ρ x).cellsOf.all D.isCell = true) ∧
   bif imm then K (.el (ρ x).cellsOf) σ else ∀ b, b ∉ σ.keys → K (.ptr b 0) ((b, .cells (ρ x).cellsOf) :: σ)
 | .buildSlice T len parts => match sle P T with
  | some (e, _, sz) => match zc P e with
   | some z => match fillD (pls sz len) (zrep z len) (parts.toList.map fun p => (p.1, ρ p.2)) with
    | some cs => ((parts.toList.map fun p => (p.1, ρ p.2)).all (·.2.flat) = true ∧ z.length = sz ∧ len * sz ≤ 16777216 ∧ len ≤ lim ∧ 0 < sz) ∧ K (.sl sz (chunk sz len cs) .full) σ
    | none => False
   | none => False
  | none => False
 | .store T a x => nstore P σ T (ρ a) (ρ x) K
 | .makeMap T none => ∀ b, b ∉ σ.keys → K (.mp b) ((b, .map []) :: σ)
 | .mapUpdate T m k x => nput P σ T (ρ m) (ρ k) (ρ x) K
 | .insert T m k x => nput P σ T (ρ m) (ρ k) (ρ x) K
 | .range T x => match ρ x with
  | .str s => isStrT P T = true ∧ ∀ b, b ∉ σ.keys → K (.ptr b 0) ((b, .siter s 0) :: σ)
  | _ => False
 | .next it true => match ρ it with
  | .ptr b 0 => match σ.get b with
   | some (.siter s pos) => s.length ≤ lim ∧
     (pos < s.length → K (.tup [.bool true, .int .i64 pos, .int .i32 (Utf8.decode ⟨s.toArray⟩ pos).1]) (σ.upd b (.siter s (pos + (Utf8.decode ⟨s.toArray⟩ pos).2)))) ∧
     (s.length ≤ pos → K (.tup [.bool false]) σ)
   | _ => False
  | _ => False
 | .makeSlice T l c => match ρ l, ρ c, sle P T, eby P T with
  | .int .i64 n, .int .i64 m, some (e, _, sz), some by_ => match zc P e with
   | some z => (0 ≤ n ∧ n ≤ m ∧ m * by_ ≤ capB ∧ z.length = sz ∧ 0 < sz ∧ 0 < by_) ∧
     bif imm then (n = 0 ∧ ∀ b, b ∉ σ.keys → K (.sl sz [] (.own b m.toNat)) ((b, .tail sz 0 m.toNat) :: σ))
     else ∀ b, b ∉ σ.keys → K (.arr b sz n.toNat m.toNat) ((b, .arr sz (List.replicate n.toNat z) m.toNat) :: σ)
   | none => False
  | _, _, _, _ => False
 | .call { callee := .value f, args := xs, .. } => match ρ f with
  | .fn fn fs cs => (isYield fn = true → cs = []) ∧ ((∃ d, PCall P fn (fs ++ xs.toList.map ρ ++ cs) d ∧ K d σ) ∨
      ACall P fn (fs ++ xs.toList.map ρ ++ cs) σ fun r σ' => match r with
        | .ret d => K d σ'
        | .pan d => X d σ')
  | _ => False
 | .call { callee := .builtin .append, args := xs, argTypes := ts } => match xs.toList.map ρ with
  | [s, x] => bif imm then nappM P σ ts s x K ∨ nappZ P σ ts s x K else napp P σ ts s x K
  | _ => False
 | .call { callee := .builtin .copy, args := xs, argTypes := ts } => match xs.toList.map ρ with
  | [d, x] => ncopy P σ ts d x K
  | _ => False
 | .panic x => match ρ x with
  | .ifc t d => X (.ifc t d) σ
  | _ => False
 | _ => False
/-- What running an operation comes to. -/
inductive NOut (P : Program) (M : Mem) (w : World) (σ : Store) (s : Sem Next) (K X : D → Store → Prop) : Prop where
 | value (M' : Mem) (w' : World) (σ' : Store) (d : D) (v : Value) (h : s.run P w = .ok (.value v) w') (st : Step M w σ M' w' σ') (c : Conc M' w' σ') (r : R M' d v) (k : K d σ')
 | skip (M' : Mem) (w' : World) (σ' : Store) (h : s.run P w = .ok .skip w') (st : Step M w σ M' w' σ') (c : Conc M' w' σ') (k : K (.v undef) σ')
 | enter (g : Nat) (args : Array Value) (h : s.run P w = .ok (.enter g args) w) (hc : CallsIn Fence.wide 0 P g args w fun e w' => ∃ M' σ' r, Step M w σ M' w' σ' ∧ Conc M' w' σ' ∧ ResR M' r e ∧
     (match r with | .ret d => K d σ' | .pan d => X d σ'))
 | round (l fn : Nat) (tmps : Array Value) (assign body : Code) (h : s.run P w = .ok (.round l fn tmps assign body) w) (hc : RoundIn Fence.wide 0 P l fn tmps assign body w fun e w' => ∃ M' σ' r, Step M w σ M' w' σ' ∧ Conc M' w' σ' ∧ ResR M' r e ∧
     (match r with | .ret d => K d σ' | .pan d => X d σ'))
 | pan (M' : Mem) (w' : World) (σ' : Store) (d : D) (v : Value) (h : s.run P w = .halt (.panic v) w') (st : Step M w σ M' w' σ') (c : Conc M' w' σ') (r : R M' d v) (k : X d σ')
section
variable {P : Program} {M : Mem} {w : World} {σ : Store} {K X : D → Store → Prop}
theorem run_zero {T : TypeId} {cs : List D} (h : zc P T = some cs) : ∃ z, (zeroValue T).run P w = .ok z w ∧ RAll M cs z.cells.toList ∧ cs.all D.isCell = true := by
 unfold zc at h
 split at h
 ·rename_i z hz
  split at h
  ·rename_i hc
   cases h
   cases hi : P.info? T with
   | none => rw [hi] at hz; cases hz
   | some i =>
    rw [hi] at hz
    have hz' : i.zero = some z := by simpa using hz
    exact ⟨z, by simp only [zeroValue, Sem.run_bind, run_typeInfo' hi, Result.andThen_ok, hz', Sem.run_pure], RAll_ofC M _, hc⟩
  ·cases h
 ·cases h
theorem newVar_run (T : TypeId) (v : Value) : (newVar T v).run P w = .ok ⟨w.heap.size, 0, none⟩ (w.alloc (.cells v.cells T (0, 0))) := rfl
theorem new_out {v : Value} {T : TypeId} {cs : List D} {imm : Bool} {s : Sem Next} (hc : Conc M w σ) (hr : RAll M cs v.cells.toList) (hcell : cs.all D.isCell = true)
  (hs : s.run P w = .ok (.value (.pointer (some ⟨w.heap.size, 0, none⟩))) (w.alloc (.cells v.cells T (0, 0))))
  (h : bif imm then K (.el cs) σ else ∀ b, b ∉ σ.keys → K (.ptr b 0) ((b, .cells cs) :: σ)) : NOut P M w σ s K X := by
 have e : v.cells = List.toArray v.cells.toList := by simp
 rw [e] at hs
 cases imm with
 | true =>
  obtain ⟨h1, h2, h3⟩ := hc.newImm v.cells.toList T (0, 0)
  refine .value _ _ σ _ _ hs h2 h1 ?_ h
  simp only [R]
  exact ⟨_, 0, rfl, RCells_of _ _ 0 (hr.mono h2.le) (by simpa using h3)⟩
 | false =>
  have hb : BoxR M (w.alloc (.cells (List.toArray v.cells.toList) T (0, 0))) w.heap.size (.cells cs) :=
   ⟨⟨_, T, alloc_heap_new w _, hr, hcell⟩, hc.mem_none⟩
  obtain ⟨h1, h2, h3⟩ := hc.newBox hb
  exact .value _ _ _ _ _ hs h2 h1 (by simp only [R]) (h _ h3)
theorem RRows_chunk (sz b : Nat) : ∀ (n : Nat) (cs : List D) (o : Nat), cs.length = n * sz → RCells M cs b o → RRows M sz (chunk sz n cs) b o
 | 0, _, _, _, _ => by simp [chunk, RRows]
 | n + 1, cs, o, hl, h => by
  rw [Nat.add_mul] at hl
  simp only [chunk, RRows]
  refine ⟨by simp; omega, ?_, RRows_chunk sz b n (cs.drop sz) (o + sz) (by simp; omega) (h.drop sz)⟩
  have key : ∀ (k : Nat) (ds : List D) (o : Nat), RCells M ds b o → RCells M (ds.take k) b o := by
   intro k
   induction k with
   | zero => intros; simp [RCells]
   | succ k ih =>
    intro ds o h
    cases ds with
    | nil => simp [RCells]
    | cons d ds => simp only [RCells, List.take_succ_cons] at h ⊢; exact ⟨h.1, ih ds _ h.2⟩
  exact key sz cs o h
theorem zrep_length (z : List D) : ∀ n, (zrep z n).length = n * z.length
 | 0 => by simp [zrep]
 | n + 1 => by simp only [zrep, List.length_append, zrep_length z n, Nat.add_mul]; omega
theorem RAll_zrep {z : List D} {vs : List Value} (h : RAll M z vs) : ∀ n, ∃ us, us.length = n * vs.length ∧ RAll M (zrep z n) us ∧ ∀ i, i < n * vs.length → us[i]? = some (vs[i % vs.length]!)
 | 0 => ⟨[], by simp, by simp [zrep, RAll], by simp⟩
 | n + 1 => by
  obtain ⟨us, h1, h2, h3⟩ := RAll_zrep h n
  refine ⟨vs ++ us, by rw [List.length_append, h1, Nat.add_mul]; omega, RAll.append h h2, fun i hi => ?_⟩
  rw [Nat.add_mul] at hi
  rcases Nat.lt_or_ge i vs.length with hlt | hge
  ·rw [List.getElem?_append_left hlt, Nat.mod_eq_of_lt hlt, List.getElem?_eq_getElem hlt]
   simp [hlt]
  ·rw [List.getElem?_append_right hge, h3 _ (by omega)]
   congr 2
   rw [← Nat.mod_eq_sub_mod hge]
theorem fillD_length {pl : List (Nat × Nat)} : ∀ {ds : List (Nat × D)} {cs cs' : List D}, fillD pl cs ds = some cs' → cs'.length = cs.length
 | [], cs, cs', h => by simp only [fillD] at h; cases h; rfl
 | (i, d) :: ds, cs, cs', h => by
  simp only [fillD] at h
  split at h
  ·split at h
   ·rename_i hc
    rw [fillD_length h]
    simp [putCells]
    omega
   ·cases h
  ·cases h
theorem buildSlice_out (hc : Conc M w σ) {T e : TypeId} {g : Bool} {sz len : Nat} {z cs : List D} {ds : List (Nat × D)} {parts : List (Nat × Value)} {s : Sem Next}
  (hT : sle P T = some (e, g, sz)) (hz : zc P e = some z) (hf : fillD (pls sz len) (zrep z len) ds = some cs) (hall : ds.all (·.2.flat) = true) (hzl : z.length = sz) (h24 : len * sz ≤ 16777216) (hlim : len ≤ lim) 
  (he : parts.map Prod.fst = ds.map Prod.fst) (hr : RAll M (ds.map Prod.snd) (parts.map Prod.snd))
  (hs : s = (do pure (Next.value (← Instr.buildSlice T len (List.toArray parts)))))
  (h : K (.sl sz (chunk sz len cs) .full) σ) : NOut P M w σ s K X := by
 obtain ⟨hu, hl⟩ := sle_some hT
 obtain ⟨zv, hz1, hz2, hz3⟩ := run_zero (P := P) (M := M) (w := w) hz
 have hzl2 := hz2.length
 obtain ⟨us, hu1, hu2, hu3⟩ := RAll_zrep hz2 len
 have hplace : ∀ i x, (pls sz len)[i]? = some x → (fun i => some (i * sz, sz)) i = some x := by
  intro i y hy
  unfold pls at hy
  rw [List.getElem?_map] at hy
  cases hi : (List.range len)[i]? with
  | none => rw [hi] at hy; cases hy
  | some j =>
   rw [hi] at hy
   have : j = i := by
    rw [List.getElem?_eq_some_iff] at hi
    obtain ⟨_, hi⟩ := hi
    simpa using hi.symm
   subst this
   simpa using hy
 obtain ⟨vs', hfill, hr'⟩ := fill_sound (M := M) (place := fun i => some (i * sz, sz)) hplace hu2 he hr hf hall
 have hzero : (Array.range (len * sz)).map (fun x => (if len * sz = 0 then (#[] : Array Value) else zv.cells)[x % (if len * sz = 0 then (#[] : Array Value) else zv.cells).size]!) = List.toArray us := by
  apply Array.ext_getElem?
  intro i
  simp only [Array.getElem?_map, List.getElem?_toArray]
  rcases Nat.lt_or_ge i (len * sz) with hi | hi
  ·rw [if_neg (by omega)]
   have : (Array.range (len * sz))[i]? = some i := by simp [hi]
   rw [this]
   have h3 := hu3 i (by rw [← hzl2, hzl]; exact hi)
   rw [h3]
   simp [getElem!_def]
  ·have h4 : us[i]? = none := by rw [List.getElem?_eq_none]; rw [hu1, ← hzl2, hzl]; exact hi
   rw [h4]
   simp [hi]
 have hrun : (Instr.buildSlice T len (List.toArray parts)).run P w = .ok (.slice (some ⟨w.heap.size, 0, none⟩) len len) (w.alloc (.cells (List.toArray vs') e (0, 0))) := by
  unfold Instr.buildSlice
  simp only [Sem.run_bind, run_underlying' hu, Result.andThen_ok, run_sizeOf' hl]
  rw [if_neg (by omega)]
  by_cases h0 : len * sz = 0
  ·simp only [if_pos h0] at hzero ⊢
   simp only [Sem.run_bind, Sem.run_pure, Result.andThen_ok]
   rw [hzero, hfill]
   rfl
  ·simp only [if_neg h0] at hzero ⊢
   simp only [Sem.run_bind, Sem.run_pure, Result.andThen_ok, hz1]
   rw [hzero, hfill]
   rfl
 obtain ⟨h1, h2, h3⟩ := hc.newImm vs' e (0, 0)
 have hcl : cs.length = len * sz := by rw [fillD_length hf, zrep_length, hzl]
 subst hs
 refine NOut.value _ _ σ _ _ (lift_value hrun) h2 h1 ?_ h
 simp only [R, chunk_length, TokR]
 exact ⟨_, _, rfl, Nat.le_refl _, hlim, fun _ => ⟨_, 0, rfl, RRows_chunk sz _ len cs 0 hcl (RCells_of _ _ 0 (hr'.mono h2.le) (by simpa using h3))⟩, rfl⟩
end
end Go.Proofs.YtfjnohmdilmfhaaGreatDoor
/- Own layer, part 9: stores and appends are right. -/
namespace Go.Proofs.YtfjnohmdilmfhaaGreatDoor
open Go Go.RowKit
set_option linter.unusedSimpArgs false
set_option linter.unusedVariables false
section
variable {P : Program} {M : Mem} {w : World} {σ : Store} {K X : D → Store → Prop}
/-! ### Rows as one list of cells -/
theorem flat_length {sz : Nat} : ∀ {rows : List (List D)}, (∀ r ∈ rows, r.length = sz) → rows.flatten.length = rows.length * sz
 | [], _ => by simp
 | r :: rs, h => by
  simp only [List.flatten_cons, List.length_append, List.length_cons, h r (by simp), flat_length (fun x hx => h x (List.mem_cons_of_mem _ hx)), Nat.add_mul]
  omega
theorem RCells.left : ∀ {cs ds : List D} {b o : Nat}, RCells M (cs ++ ds) b o → RCells M cs b o
 | [], _, _, _, _ => by simp only [RCells]
 | c :: cs, ds, b, o, h => by
  simp only [RCells, List.cons_append] at h ⊢
  exact ⟨h.1, RCells.left h.2⟩
theorem RRows.of_flat {sz : Nat} : ∀ {rows : List (List D)} {b o : Nat}, (∀ r ∈ rows, r.length = sz) → RCells M rows.flatten b o → RRows M sz rows b o
 | [], _, _, _, _ => by simp only [RRows]
 | r :: rs, b, o, hl, h => by
  simp only [List.flatten_cons] at h
  simp only [RRows]
  refine ⟨hl r (by simp), h.left, RRows.of_flat (fun x hx => hl x (List.mem_cons_of_mem _ hx)) ?_⟩
  have := RCells.drop r.length h
  rw [List.drop_left] at this
  rwa [hl r (by simp)] at this
theorem flat_take {sz : Nat} : ∀ {rows : List (List D)}, (∀ r ∈ rows, r.length = sz) → ∀ {n : Nat}, (rows.take n).flatten = rows.flatten.take (n * sz)
 | [], _, n => by simp
 | r :: rows, h, 0 => by simp
 | r :: rows, h, n + 1 => by
  have hr := h r (by simp)
  have ih := flat_take (rows := rows) (fun q hq => h q (List.mem_cons_of_mem _ hq)) (n := n)
  simp only [List.take_succ_cons, List.flatten_cons, ih]
  rw [show (n + 1) * sz = r.length + n * sz from by rw [hr, Nat.add_mul]; omega, List.take_length_add_append]
theorem flat_drop {sz : Nat} : ∀ {rows : List (List D)}, (∀ r ∈ rows, r.length = sz) → ∀ {n : Nat}, (rows.drop n).flatten = rows.flatten.drop (n * sz)
 | [], _, n => by simp
 | r :: rows, h, 0 => by simp
 | r :: rows, h, n + 1 => by
  have hr := h r (by simp)
  have ih := flat_drop (rows := rows) (fun q hq => h q (List.mem_cons_of_mem _ hq)) (n := n)
  simp only [List.drop_succ_cons, List.flatten_cons, ih]
  rw [show (n + 1) * sz = r.length + n * sz from by rw [hr, Nat.add_mul]; omega, List.drop_length_add_append]
/-- The cells that a slice, or a string, hands to append or copy. -/
theorem rows_cells (hc : Conc M w σ) {x : D} {v : Value} {sz : Nat} {rows : List (List D)} (hx : R M x v) (hr : rowsOf σ x = some (sz, rows)) :
  ∃ vs, Builtin.lenOf v = pure rows.length ∧ (∀ s, (rows = [] ∨ s = sz) → (Builtin.firstCells s rows.length v).run P w = .ok (List.toArray vs) w) ∧ RAll M rows.flatten vs ∧ (∀ r ∈ rows, r.length = sz) := by
 unfold rowsOf at hr
 split at hr
 ·rename_i sz' rows' tk
  simp only [Option.some.injEq, Prod.mk.injEq] at hr
  obtain ⟨rfl, rfl⟩ := hr
  simp only [R] at hx
  obtain ⟨p, cap, rfl, _, _, h3, _⟩ := hx
  by_cases hne : rows' = []
  ·subst hne
   refine ⟨[], rfl, fun s _ => ?_, by simp [RAll], by simp⟩
   cases p with
   | none => rfl
   | some a =>
    simp only [Builtin.firstCells, List.length_nil, Nat.zero_mul]
    rfl
  ·obtain ⟨b, o, rfl, hrr⟩ := h3 hne
   obtain ⟨h4, h5⟩ := hrr.flat
   obtain ⟨vs, h6, h7⟩ := run_loadCells (P := P) (n := rows'.length * sz') (h4.toW hc) (by rw [flat_length h5]; exact Nat.le_refl _)
   refine ⟨vs, rfl, fun s hs => ?_, by rwa [List.take_of_length_le (by rw [flat_length h5]; exact Nat.le_refl _)] at h7, h5⟩
   obtain rfl := hs.resolve_left hne
   exact h6
 ·rename_i s
  simp only [Option.some.injEq, Prod.mk.injEq] at hr
  obtain ⟨rfl, rfl⟩ := hr
  simp only [R] at hx
  obtain ⟨rfl, hl⟩ := hx
  refine ⟨s.map fun c => .int .u8 (c.toNat : Int), ?_, ?_, ?_, ?_⟩
  ·simp [Builtin.lenOf, ByteArray.size]
  ·intro sz _
   simp only [Builtin.firstCells, List.length_map, Sem.run_pure]
   congr 1
   rw [ByteArray.extract_mk]
   simp
  ·clear hl
   induction s with
   | nil => simp [RAll]
   | cons c s ih =>
    simp only [List.map_cons, List.flatten_cons, List.cons_append, List.nil_append, RAll]
    refine ⟨R_int ?_, ih⟩
    rw [inR_u8]
    have := c.toNat_lt
    omega
  ·intro r hr
   obtain ⟨c, _, rfl⟩ := List.mem_map.1 hr
   rfl
 ·rename_i b sz' n cap
  split at hr
  ·rename_i sz2 rows' cap' hg
   split at hr
   ·rename_i he
    obtain ⟨rfl, hle⟩ := he
    simp only [Option.some.injEq, Prod.mk.injEq] at hr
    obtain ⟨rfl, rfl⟩ := hr
    simp only [R] at hx
    subst hx
    obtain ⟨⟨vs, T, h1, h2, h3, h4, h5⟩, _⟩ := hc.box _ _ (Store.mem_of_get hg)
    have hw : WCells M w rows'.flatten b 0 := boxCells_w hc (by simp [boxCells, hg])
    have h5' : ∀ r ∈ rows', r.length = sz' := fun r hr => (h5 r hr).1
    have hlen : rows'.flatten.length = rows'.length * sz' := flat_length h5'
    have htn : (rows'.take n).length = n := by rw [List.length_take]; exact Nat.min_eq_left hle
    obtain ⟨us, h6, h7⟩ := run_loadCells (P := P) (n := n * sz') hw (by rw [hlen]; exact Nat.mul_le_mul_right _ hle)
    refine ⟨us, by rw [htn]; rfl, fun s hs => ?_, by rwa [flat_take h5'], fun r hr => h5' r (List.mem_of_mem_take hr)⟩
    rw [htn]
    rcases hs with hs | rfl
    ·have hn0 : n = 0 := by rw [← htn, hs]; rfl
     subst hn0
     have : us = [] := by
      have := h7.length
      simp at this
      exact List.eq_nil_of_length_eq_zero this.symm
     subst this
     simp only [Builtin.firstCells, Nat.zero_mul]
     rfl
    ·exact h6
   ·cases hr
  ·cases hr
 ·rename_i b o n cc
  split at hr
  ·rename_i sz2 rows' cap' hg
   split at hr
   ·rename_i he
    obtain ⟨h0, ho, hle⟩ := he
    simp only [Option.some.injEq, Prod.mk.injEq] at hr
    obtain ⟨rfl, rfl⟩ := hr
    simp only [R] at hx
    subst hx
    obtain ⟨⟨vs, T, h1, h2, h3, h4, h5⟩, _⟩ := hc.box _ _ (Store.mem_of_get hg)
    have hw : WCells M w rows'.flatten b 0 := boxCells_w hc (by simp [boxCells, hg])
    have h5' : ∀ r ∈ rows', r.length = sz2 := fun r hr => (h5 r hr).1
    have hlen : rows'.flatten.length = rows'.length * sz2 := flat_length h5'
    have hoe : o = o / sz2 * sz2 := by have := Nat.div_add_mod o sz2; rw [ho, Nat.mul_comm] at this; omega
    have hd5 : ∀ r ∈ rows'.drop (o / sz2), r.length = sz2 := fun r hr => h5' r (List.mem_of_mem_drop hr)
    have htn : ((rows'.drop (o / sz2)).take n).length = n := by rw [List.length_take, List.length_drop]; omega
    have hwd := hw.drop (o / sz2 * sz2)
    rw [← flat_drop h5', Nat.zero_add, ← hoe] at hwd
    obtain ⟨us, h6, h7⟩ := run_loadCells (P := P) (n := n * sz2) hwd (by rw [flat_length hd5, List.length_drop]; exact Nat.mul_le_mul_right _ (by omega))
    refine ⟨us, by rw [htn]; rfl, fun s hs => ?_, by rwa [flat_take hd5], fun r hr => hd5 r (List.mem_of_mem_take hr)⟩
    rw [htn]
    rcases hs with hs | rfl
    ·have hn0 : n = 0 := by rw [← htn, hs]; rfl
     subst hn0
     have : us = [] := by
      have := h7.length
      simp at this
      exact List.eq_nil_of_length_eq_zero this.symm
     subst this
     simp only [Builtin.firstCells, Nat.zero_mul]
     rfl
    ·exact h6
   ·cases hr
  ·cases hr
 ·cases hr
/-! ### The store under append -/
theorem Store.ren_same : ∀ (σ : Store) (b : Nat) (y : Box), σ.ren b b y = σ.upd b y
 | [], _, _ => rfl
 | (c, x) :: σ, b, y => by
  unfold Store.ren Store.upd
  split
  ·rename_i e; rw [e]
  ·rw [Store.ren_same σ b y]
theorem Store.mem_ren : ∀ {σ : Store} {b b' c : Nat} {y z : Box}, σ.keys.Nodup → (c, z) ∈ σ.ren b b' y → (c = b' ∧ z = y ∧ b ∈ σ.keys) ∨ (c ≠ b ∧ (c, z) ∈ σ)
 | [], _, _, _, _, _, _, h => by simp [Store.ren] at h
 | (d, x) :: σ, b, b', c, y, z, hn, h => by
  simp only [Store.keys, List.map_cons, List.nodup_cons] at hn
  unfold Store.ren at h
  split at h
  ·rename_i e
   subst e
   rcases List.mem_cons.1 h with h | h
   ·cases h; exact .inl ⟨rfl, rfl, by simp [Store.keys]⟩
   ·have h2 := List.mem_map_of_mem (f := Prod.fst) h
    exact .inr ⟨fun e => hn.1 (e ▸ h2), List.mem_cons_of_mem _ h⟩
  ·rename_i e
   rcases List.mem_cons.1 h with h | h
   ·cases h; exact .inr ⟨fun e' => e e'.symm, by simp⟩
   ·rcases Store.mem_ren hn.2 h with ⟨h1, h2, h3⟩ | ⟨h1, h2⟩
    ·exact .inl ⟨h1, h2, by simp only [Store.keys, List.map_cons, List.mem_cons]; exact .inr h3⟩
    ·exact .inr ⟨h1, List.mem_cons_of_mem _ h2⟩
theorem Store.nodup_ren : ∀ {σ : Store} {b b' : Nat} {y : Box}, σ.keys.Nodup → b' ∉ σ.keys → (σ.ren b b' y).keys.Nodup
 | [], _, _, _, _, _ => by simp [Store.ren, Store.keys]
 | (d, x) :: σ, b, b', y, hn, hb => by
  have hn0 := hn
  simp only [Store.keys, List.map_cons, List.nodup_cons] at hn
  simp only [Store.keys, List.map_cons, List.mem_cons, not_or] at hb
  unfold Store.ren
  split
  ·simp only [Store.keys, List.map_cons, List.nodup_cons]
   exact ⟨hb.2, hn.2⟩
  ·simp only [Store.keys, List.map_cons, List.nodup_cons]
   refine ⟨fun h => ?_, Store.nodup_ren hn.2 hb.2⟩
   obtain ⟨⟨c, z⟩, hm, rfl⟩ := List.mem_map.1 h
   rcases Store.mem_ren hn.2 hm with ⟨h1, _, _⟩ | ⟨_, h2⟩
   ·exact hb.1 h1.symm
   ·exact hn.1 (List.mem_map_of_mem (f := Prod.fst) h2)
/-- A new row with spare room. -/
theorem new_tail (hc : Conc M w σ) {vs rest : List Value} {T : TypeId} {sz n cap : Nat} (hl : vs.length = n * sz) (hr : (vs ++ rest).length = cap * sz) (hn : n ≤ cap) :
  let w1 := w.drew.alloc (.cells (List.toArray (vs ++ rest)) T (0, 0))
  BoxR (M.add w.heap.size vs) w1 w.heap.size (.tail sz n cap) ∧
  (∀ b o v, M.add w.heap.size vs b o = some v → w1.cell? ⟨b, o, none⟩ = some v) ∧
  (∀ c z, (c, z) ∈ σ → BoxR (M.add w.heap.size vs) w1 c z) ∧
  (∀ σ', (∀ b, b ∈ σ'.keys → b ∈ σ.keys ∨ w.heap.size ≤ b) → Step M w σ (M.add w.heap.size vs) w1 σ') ∧
  (∀ i v, vs[i]? = some v → M.add w.heap.size vs w.heap.size i = some v) ∧ Mem.le M (M.add w.heap.size vs) := by
 intro w1
 have hle : Mem.le M (M.add w.heap.size vs) := fun b o x h => by
  unfold Mem.add
  rw [if_neg (by have := hc.memLt h; omega)]
  exact h
 have hg : ∀ b o x, M.add w.heap.size vs b o = some x → M b o = some x ∨ w.heap.size ≤ b := fun b o x h => by
  unfold Mem.add at h
  split at h
  ·exact .inr (by omega)
  ·exact .inl h
 have hnew : w1.heap[w.heap.size]? = some (.cells (List.toArray (vs ++ rest)) T (0, 0)) := alloc_heap_new w.drew _
 have hold : ∀ b, b < w.heap.size → w1.heap[b]? = w.heap[b]? := fun b hb => alloc_heap_old w.drew _ hb
 refine ⟨⟨⟨_, T, hnew, by simpa using hr, hn⟩, fun o ho => ?_⟩, ?_, ?_, ?_, fun i v h => by unfold Mem.add; rw [if_pos rfl]; exact h, hle⟩
 ·unfold Mem.add
  rw [if_pos rfl, List.getElem?_eq_none (by omega)]
 ·intro b i v h
  unfold Mem.add at h
  split at h
  ·rename_i e; subst e
   simp only [World.cell?, hnew]
   have hi := (List.getElem?_eq_some_iff.1 h).1
   simp [List.getElem?_append_left hi, h]
  ·simp only [World.cell?, hold b (hc.memLt h)]
   exact hc.mem b i v h
 ·intro b y hy
  have hlt := (hc.box b y hy).lt
  exact (hc.box b y hy).mono hle (fun o v h => (hg b o v h).resolve_right (by omega)) (hold b hlt)
 ·intro σ' hk
  exact { le := hle, os := rfl, tape := rfl, output := rfl, size := by show w.heap.size ≤ (w.drew.alloc _).heap.size; simp, block := fun b hb _ => hold b hb, keys := hk,
          grow := fun b o x h => (hg b o x h).imp id .inl }
end
end Go.Proofs.YtfjnohmdilmfhaaGreatDoor

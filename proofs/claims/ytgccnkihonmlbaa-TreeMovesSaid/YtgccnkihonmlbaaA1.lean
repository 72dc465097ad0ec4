/- Own layer, part 1: plain data for Go values, the reading of a value as plain data over a snapshot of memory, a store of local boxes. -/
import Derived.CallsIn
import Derived.Below
import Derived.Laws.Sem
import Derived.Laws.World
namespace Go.Proofs.Ytgccnkihonmlbaa
open Go Go.RowKit
set_option linter.unusedSimpArgs false
set_option linter.unusedVariables false

/-- What is known of a slice's spare room: nothing; it is nil; it is the row of block b with room for cap rows; it is full. -/
inductive Tok where
  | no | nil | own (b cap : Nat) | full
  deriving DecidableEq

inductive D where
  | int (k : IntKind) (n : Int)
  | bool (b : Bool)
  | str (s : List UInt8)
  | v (x : Value)
  | sl (sz : Nat) (rows : List (List D)) (t : Tok)
  | ptr (b o : Nat)
  | el (cs : List D)
  | mp (b : Nat)
  | fn (f : Fn) (first caps : List D)
  | ifc (t : Nat) (d : D)
  | ag (cs : List D)
  | tup (ds : List D)
  | cnd (g : Bool) (d : D)
  | arr (b sz n cap : Nat)
  | top

instance : Inhabited D := ⟨.top⟩

abbrev Mem := Nat → Nat → Option Value

def lim : Nat := 9223372036854775807
theorem lim_eq : lim = 9223372036854775807 := rfl

def inR (k : IntKind) (n : Int) : Prop := k.min ≤ n ∧ n ≤ k.max

def TokR : Tok → Option Addr → Nat → Nat → Prop
  | .no, _, _, _ => True
  | .nil, p, cap, _ => p = none ∧ cap = 0
  | .own b c, p, cap, _ => p = some ⟨b, 0, none⟩ ∧ cap = c
  | .full, _, cap, n => cap = n

mutual
def R (M : Mem) : D → Value → Prop
  | .int k n, y => y = .int k n ∧ inR k n
  | .bool b, y => y = .bool b
  | .str s, y => y = .string ⟨s.toArray⟩ ∧ s.length ≤ lim
  | .v x, y => y = x
  | .sl sz rows t, y => ∃ p cap, y = .slice p rows.length cap ∧ rows.length ≤ cap ∧ rows.length ≤ lim ∧
      (rows ≠ [] → ∃ b o, p = some ⟨b, o, none⟩ ∧ RRows M sz rows b o) ∧ TokR t p cap rows.length
  | .ptr b o, y => y = .pointer (some ⟨b, o, none⟩)
  | .el cs, y => ∃ b o, y = .pointer (some ⟨b, o, none⟩) ∧ RCells M cs b o
  | .mp b, y => y = .map (some b)
  | .fn f fs cs, y => ∃ vs us, y = .func f vs.toArray us.toArray ∧ RAll M fs vs ∧ RAll M cs us
  | .ifc t d, y => ∃ u, y = .iface t u ∧ R M d u
  | .ag cs, y => ∃ vs, y = .agg vs.toArray ∧ RAll M cs vs
  | .tup ds, y => ∃ vs, y = .tuple vs.toArray ∧ RAll M ds vs
  | .cnd g d, y => (g = true → R M d y) ∧ (g = false → y = undef)
  | .arr b _ n cap, y => y = .slice (some ⟨b, 0, none⟩) n cap
  | .top, _ => True
def RAll (M : Mem) : List D → List Value → Prop
  | [], [] => True
  | d :: ds, x :: xs => R M d x ∧ RAll M ds xs
  | _, _ => False
def RCells (M : Mem) : List D → Nat → Nat → Prop
  | [], _, _ => True
  | d :: ds, b, o => (∃ x, M b o = some x ∧ R M d x) ∧ RCells M ds b (o + 1)
def RRows (M : Mem) (sz : Nat) : List (List D) → Nat → Nat → Prop
  | [], _, _ => True
  | r :: rs, b, o => r.length = sz ∧ RCells M r b o ∧ RRows M sz rs b (o + sz)
end

def Mem.le (M M' : Mem) : Prop := ∀ b o x, M b o = some x → M' b o = some x

theorem Mem.le.refl (M : Mem) : Mem.le M M := fun _ _ _ h => h
theorem Mem.le.trans {M M' M'' : Mem} (h : Mem.le M M') (h' : Mem.le M' M'') : Mem.le M M'' := fun _ _ _ hx => h' _ _ _ (h _ _ _ hx)

mutual
theorem R.mono {M M' : Mem} (hM : Mem.le M M') : ∀ (d : D) (y : Value), R M d y → R M' d y
  | .int _ _, _, h => by simp only [R] at h ⊢; exact h
  | .bool _, _, h => by simp only [R] at h ⊢; exact h
  | .str _, _, h => by simp only [R] at h ⊢; exact h
  | .v _, _, h => by simp only [R] at h ⊢; exact h
  | .sl sz rows t, _, h => by
    simp only [R] at h ⊢
    obtain ⟨p, cap, h1, h2, h3, h4, h5⟩ := h
    exact ⟨p, cap, h1, h2, h3, fun hn => let ⟨b, o, e, hr⟩ := h4 hn; ⟨b, o, e, RRows.mono hM sz rows b o hr⟩, h5⟩
  | .ptr _ _, _, h => by simp only [R] at h ⊢; exact h
  | .el cs, _, h => by
    simp only [R] at h ⊢
    obtain ⟨b, o, e, hr⟩ := h
    exact ⟨b, o, e, RCells.mono hM cs b o hr⟩
  | .mp _, _, h => by simp only [R] at h ⊢; exact h
  | .fn f fs cs, _, h => by
    simp only [R] at h ⊢
    obtain ⟨vs, us, e, h1, h2⟩ := h
    exact ⟨vs, us, e, RAll.mono hM fs vs h1, RAll.mono hM cs us h2⟩
  | .ifc t d, _, h => by
    simp only [R] at h ⊢
    obtain ⟨u, e, h1⟩ := h
    exact ⟨u, e, R.mono hM d u h1⟩
  | .ag cs, _, h => by
    simp only [R] at h ⊢
    obtain ⟨u, e, h1⟩ := h
    exact ⟨u, e, RAll.mono hM cs u h1⟩
  | .tup cs, _, h => by
    simp only [R] at h ⊢
    obtain ⟨u, e, h1⟩ := h
    exact ⟨u, e, RAll.mono hM cs u h1⟩
  | .cnd g d, y, h => by
    simp only [R] at h ⊢
    exact ⟨fun e => R.mono hM d y (h.1 e), h.2⟩
  | .arr _ _ _ _, _, h => by simp only [R] at h ⊢; exact h
  | .top, _, _ => by simp only [R]
theorem RAll.mono {M M' : Mem} (hM : Mem.le M M') : ∀ (ds : List D) (ys : List Value), RAll M ds ys → RAll M' ds ys
  | [], [], _ => by simp only [RAll]
  | d :: ds, x :: xs, h => by simp only [RAll] at h ⊢; exact ⟨R.mono hM d x h.1, RAll.mono hM ds xs h.2⟩
  | [], _ :: _, h => by simp [RAll] at h
  | _ :: _, [], h => by simp [RAll] at h
theorem RCells.mono {M M' : Mem} (hM : Mem.le M M') : ∀ (ds : List D) (b o : Nat), RCells M ds b o → RCells M' ds b o
  | [], _, _, _ => by simp only [RCells]
  | d :: ds, b, o, h => by
    simp only [RCells] at h ⊢
    obtain ⟨⟨x, h1, h2⟩, h3⟩ := h
    exact ⟨⟨x, hM _ _ _ h1, R.mono hM d x h2⟩, RCells.mono hM ds b (o + 1) h3⟩
theorem RRows.mono {M M' : Mem} (hM : Mem.le M M') (sz : Nat) : ∀ (rs : List (List D)) (b o : Nat), RRows M sz rs b o → RRows M' sz rs b o
  | [], _, _, _ => by simp only [RRows]
  | r :: rs, b, o, h => by
    simp only [RRows] at h ⊢
    exact ⟨h.1, RCells.mono hM r b o h.2.1, RRows.mono hM sz rs b (o + sz) h.2.2⟩
end


theorem RAll.length {M : Mem} : ∀ {ds : List D} {ys : List Value}, RAll M ds ys → ds.length = ys.length
  | [], [], _ => rfl
  | _ :: _, _ :: _, h => by simp only [RAll] at h; simp [RAll.length h.2]
  | [], _ :: _, h => by simp [RAll] at h
  | _ :: _, [], h => by simp [RAll] at h

theorem RAll.append {M : Mem} : ∀ {ds es : List D} {ys zs : List Value}, RAll M ds ys → RAll M es zs → RAll M (ds ++ es) (ys ++ zs)
  | [], _, [], _, _, h => by simpa using h
  | _ :: _, _, _ :: _, _, h, h' => by simp only [RAll, List.cons_append] at h ⊢; exact ⟨h.1, RAll.append h.2 h'⟩
  | [], _, _ :: _, _, h, _ => by simp [RAll] at h
  | _ :: _, _, [], _, h, _ => by simp [RAll] at h

theorem RAll.get {M : Mem} : ∀ {ds : List D} {ys : List Value} {i : Nat} {d : D}, RAll M ds ys → ds[i]? = some d → ∃ y, ys[i]? = some y ∧ R M d y
  | [], _, _, _, _, h => by simp at h
  | _ :: _, [], _, _, h, _ => by simp [RAll] at h
  | e :: ds, y :: ys, 0, d, h, hd => by
    simp only [RAll] at h
    simp at hd
    subst hd
    exact ⟨y, by simp, h.1⟩
  | e :: ds, y :: ys, i + 1, d, h, hd => by
    simp only [RAll] at h
    simpa using RAll.get (i := i) h.2 (by simpa using hd)

theorem RAll.take {M : Mem} : ∀ {ds : List D} {ys : List Value} (n : Nat), RAll M ds ys → RAll M (ds.take n) (ys.take n)
  | [], [], n, _ => by simp [RAll]
  | _ :: _, _ :: _, 0, _ => by simp [RAll]
  | _ :: _, _ :: _, n + 1, h => by simp only [RAll, List.take_succ_cons] at h ⊢; exact ⟨h.1, RAll.take n h.2⟩
  | [], _ :: _, _, h => by simp [RAll] at h
  | _ :: _, [], _, h => by simp [RAll] at h

theorem RAll.drop {M : Mem} : ∀ {ds : List D} {ys : List Value} (n : Nat), RAll M ds ys → RAll M (ds.drop n) (ys.drop n)
  | [], [], n, _ => by simp [RAll]
  | _ :: _, _ :: _, 0, h => by simpa using h
  | _ :: _, _ :: _, n + 1, h => by simp only [RAll, List.drop_succ_cons] at h ⊢; exact RAll.drop n h.2
  | [], _ :: _, _, h => by simp [RAll] at h
  | _ :: _, [], _, h => by simp [RAll] at h

theorem RCells.drop {M : Mem} : ∀ {ds : List D} {b o : Nat} (n : Nat), RCells M ds b o → RCells M (ds.drop n) b (o + n)
  | [], _, _, _, _ => by simp [RCells]
  | _ :: _, _, _, 0, h => by simpa using h
  | _ :: ds, b, o, n + 1, h => by
    simp only [RCells, List.drop_succ_cons] at h ⊢
    have := RCells.drop (ds := ds) (b := b) (o := o + 1) n h.2
    rwa [show o + 1 + n = o + (n + 1) from by omega] at this

theorem RCells.get {M : Mem} : ∀ {ds : List D} {b o i : Nat} {d : D}, RCells M ds b o → ds[i]? = some d → ∃ y, M b (o + i) = some y ∧ R M d y
  | [], _, _, _, _, _, h => by simp at h
  | e :: ds, b, o, 0, d, h, hd => by
    simp only [RCells] at h
    simp at hd
    subst hd
    exact h.1
  | e :: ds, b, o, i + 1, d, h, hd => by
    simp only [RCells] at h
    have := RCells.get (i := i) h.2 (by simpa using hd)
    rwa [show o + 1 + i = o + (i + 1) from by omega] at this

theorem RRows.get {M : Mem} {sz : Nat} : ∀ {rs : List (List D)} {b o i : Nat} {r : List D}, RRows M sz rs b o → rs[i]? = some r → r.length = sz ∧ RCells M r b (o + i * sz)
  | [], _, _, _, _, _, h => by simp at h
  | e :: ds, b, o, 0, d, h, hd => by
    simp only [RRows] at h
    simp at hd
    subst hd
    simpa using ⟨h.1, h.2.1⟩
  | e :: ds, b, o, i + 1, d, h, hd => by
    simp only [RRows] at h
    have := RRows.get (i := i) h.2.2 (by simpa using hd)
    rwa [show o + sz + i * sz = o + (i + 1) * sz from by rw [Nat.add_mul]; omega] at this

theorem RRows.take {M : Mem} {sz : Nat} : ∀ {rs : List (List D)} {b o : Nat} (n : Nat), RRows M sz rs b o → RRows M sz (rs.take n) b o
  | [], _, _, _, _ => by simp [RRows]
  | _ :: _, _, _, 0, _ => by simp [RRows]
  | _ :: _, _, _, n + 1, h => by simp only [RRows, List.take_succ_cons] at h ⊢; exact ⟨h.1, h.2.1, RRows.take n h.2.2⟩

theorem RRows.drop {M : Mem} {sz : Nat} : ∀ {rs : List (List D)} {b o : Nat} (n : Nat), RRows M sz rs b o → RRows M sz (rs.drop n) b (o + n * sz)
  | [], _, _, _, _ => by simp [RRows]
  | _ :: _, _, _, 0, h => by simpa using h
  | _ :: ds, b, o, n + 1, h => by
    simp only [RRows, List.drop_succ_cons] at h ⊢
    have := RRows.drop (rs := ds) (b := b) (o := o + sz) n h.2.2
    rwa [show o + sz + n * sz = o + (n + 1) * sz from by rw [Nat.add_mul]; omega] at this

theorem RRows.append {M : Mem} {sz : Nat} : ∀ {rs ss : List (List D)} {b o : Nat}, RRows M sz rs b o → RRows M sz ss b (o + rs.length * sz) → RRows M sz (rs ++ ss) b o
  | [], _, _, _, _, h => by simpa using h
  | _ :: rs, ss, b, o, h, h' => by
    simp only [RRows, List.cons_append] at h ⊢
    refine ⟨h.1, h.2.1, RRows.append h.2.2 ?_⟩
    rwa [show o + sz + rs.length * sz = o + (rs.length + 1) * sz from by rw [Nat.add_mul]; omega]

/-! ### Cells -/
def D.isCell : D → Bool
  | .int .. | .bool _ | .str _ | .sl .. | .ptr .. | .el _ | .mp _ | .fn .. | .ifc .. | .arr .. => true
  | .v x => x.oneCell'
  | _ => false

theorem R.oneCell {M : Mem} {d : D} {y : Value} (h : R M d y) (hd : d.isCell = true) : y.oneCell' = true := by
  cases d <;> simp only [D.isCell, Bool.false_eq_true] at hd <;> simp only [R] at h
  · rw [h.1]; rfl
  · rw [h]; rfl
  · rw [h.1]; rfl
  · rw [h]; exact hd
  · obtain ⟨_, _, e, _⟩ := h; rw [e]; rfl
  · rw [h]; rfl
  · obtain ⟨_, _, e, _⟩ := h; rw [e]; rfl
  · rw [h]; rfl
  · obtain ⟨_, _, e, _⟩ := h; rw [e]; rfl
  · obtain ⟨_, e, _⟩ := h; rw [e]; rfl
  · rw [h]; rfl

/-- The cells of a value. -/
def D.cellsOf : D → List D
  | .ag cs => cs
  | d => [d]

/-! ### The store of local boxes -/
inductive Box where
  | cells (cs : List D)
  | tail (sz n cap : Nat)
  | arr (sz : Nat) (rows : List (List D)) (cap : Nat)
  | map (es : List (D × D))
  | siter (s : List UInt8) (pos : Nat)
  | obj (o : Obj) (env : Nat → D) (tm : Array Value)

abbrev Store := List (Nat × Box)
def Store.keys (σ : Store) : List Nat := σ.map Prod.fst

def Store.get : Store → Nat → Option Box
  | [], _ => none
  | (b, x) :: σ, c => if c = b then some x else Store.get σ c

def Store.upd : Store → Nat → Box → Store
  | [], _, _ => []
  | (b, x) :: σ, c, y => if c = b then (b, y) :: σ else (b, x) :: Store.upd σ c y

theorem Store.keys_upd : ∀ (σ : Store) (c : Nat) (y : Box), (σ.upd c y).keys = σ.keys
  | [], _, _ => rfl
  | (b, x) :: σ, c, y => by
    unfold Store.upd
    split
    · rfl
    · have := Store.keys_upd σ c y
      simp only [Store.keys, List.map_cons] at this ⊢
      rw [this]

theorem Store.mem_of_get : ∀ {σ : Store} {c : Nat} {y : Box}, σ.get c = some y → (c, y) ∈ σ
  | [], _, _, h => by simp [Store.get] at h
  | (b, x) :: σ, c, y, h => by
    unfold Store.get at h
    split at h
    · rename_i e; cases h; rw [e]; simp
    · exact List.mem_cons_of_mem _ (Store.mem_of_get h)

theorem Store.get_mem {σ : Store} {c : Nat} {y : Box} (h : σ.get c = some y) : c ∈ σ.keys :=
  List.mem_map_of_mem (f := Prod.fst) (Store.mem_of_get h)

theorem Store.get_of_mem : ∀ {σ : Store} {c : Nat} {y : Box}, σ.keys.Nodup → (c, y) ∈ σ → σ.get c = some y
  | [], _, _, _, h => by simp at h
  | (b, x) :: σ, c, y, hn, h => by
    simp only [Store.keys, List.map_cons, List.nodup_cons] at hn
    unfold Store.get
    split
    · rename_i e
      subst e
      rcases List.mem_cons.1 h with h | h
      · cases h; rfl
      · exact absurd (List.mem_map_of_mem (f := Prod.fst) h) hn.1
    · rename_i e
      rcases List.mem_cons.1 h with h | h
      · cases h; exact absurd rfl e
      · exact Store.get_of_mem hn.2 h

theorem Store.mem_upd : ∀ {σ : Store} {c d : Nat} {y z : Box}, σ.keys.Nodup → (d, z) ∈ σ.upd c y → (d = c ∧ z = y ∧ c ∈ σ.keys) ∨ (d ≠ c ∧ (d, z) ∈ σ)
  | [], _, _, _, _, _, h => by simp [Store.upd] at h
  | (b, x) :: σ, c, d, y, z, hn, h => by
    simp only [Store.keys, List.map_cons, List.nodup_cons] at hn
    unfold Store.upd at h
    split at h
    · rename_i e
      subst e
      rcases List.mem_cons.1 h with h | h
      · cases h; exact .inl ⟨rfl, rfl, by simp [Store.keys]⟩
      · have h2 := List.mem_map_of_mem (f := Prod.fst) h
        exact .inr ⟨fun e => hn.1 (e ▸ h2), List.mem_cons_of_mem _ h⟩
    · rename_i e
      rcases List.mem_cons.1 h with h | h
      · cases h; exact .inr ⟨fun e' => e e'.symm, by simp⟩
      · rcases Store.mem_upd hn.2 h with ⟨h1, h2, h3⟩ | ⟨h1, h2⟩
        · exact .inl ⟨h1, h2, by simp only [Store.keys, List.map_cons, List.mem_cons]; exact .inr h3⟩
        · exact .inr ⟨h1, List.mem_cons_of_mem _ h2⟩

/-- One entry of a map. -/
def EntR (M : Mem) (e : D × D) (m : MapEntry) : Prop := R M e.1 m.key ∧ R M e.2 m.val

def EntsR (M : Mem) : List (D × D) → List MapEntry → Prop
  | [], [] => True
  | e :: es, m :: ms => EntR M e m ∧ EntsR M es ms
  | _, _ => False

theorem EntsR.mono {M M' : Mem} (h : Mem.le M M') : ∀ {es : List (D × D)} {ms : List MapEntry}, EntsR M es ms → EntsR M' es ms
  | [], [], _ => trivial
  | _ :: _, _ :: _, ⟨h1, h2⟩ => ⟨⟨R.mono h _ _ h1.1, R.mono h _ _ h1.2⟩, EntsR.mono h h2⟩
  | [], _ :: _, h => h.elim
  | _ :: _, [], h => h.elim

def BoxR (M : Mem) (w : World) (b : Nat) : Box → Prop
  | .cells cs => (∃ vs T, w.heap[b]? = some (.cells (List.toArray vs) T (0, 0)) ∧ RAll M cs vs ∧ cs.all D.isCell = true) ∧ ∀ o, M b o = none
  | .tail sz n cap => (∃ vs T, w.heap[b]? = some (.cells vs T (0, 0)) ∧ vs.size = cap * sz ∧ n ≤ cap) ∧ ∀ o, n * sz ≤ o → M b o = none
  | .arr sz rows cap => (∃ vs T, w.heap[b]? = some (.cells (List.toArray vs) T (0, 0)) ∧ vs.length = cap * sz ∧ rows.length ≤ cap ∧
      RAll M rows.flatten (vs.take (rows.length * sz)) ∧ (∀ r ∈ rows, r.length = sz ∧ r.all D.isCell = true)) ∧ ∀ o, M b o = none
  | .map es => (∃ ms clock, w.heap[b]? = some (.map (List.toArray ms) clock) ∧ EntsR M es ms ∧ (ms.map (·.born)).Nodup ∧ ∀ m ∈ ms, m.born < clock) ∧ ∀ o, M b o = none
  | .siter s pos => w.heap[b]? = some (.stringIter ⟨s.toArray⟩ pos) ∧ ∀ o, M b o = none
  | .obj o env tm => w.heap[b]? = some o ∧ (∀ k, M b k = none) ∧ ∀ i, R M (env i) (tm.getD i undef)

theorem BoxR.mono {M M' : Mem} {w w' : World} {b : Nat} {x : Box} (hM : Mem.le M M') (hg : ∀ o v, M' b o = some v → M b o = some v)
    (hw : w'.heap[b]? = w.heap[b]?) (h : BoxR M w b x) : BoxR M' w' b x := by
  have hn : ∀ o, M b o = none → M' b o = none := fun o h => by
    cases e : M' b o with
    | none => rfl
    | some v => rw [hg o v e] at h; cases h
  cases x with
  | cells cs =>
    obtain ⟨⟨vs, T, h1, h2, h3⟩, h4⟩ := h
    exact ⟨⟨vs, T, hw.trans h1, RAll.mono hM _ _ h2, h3⟩, fun o => hn o (h4 o)⟩
  | tail sz n cap =>
    obtain ⟨⟨vs, T, h1, h2, h3⟩, h4⟩ := h
    exact ⟨⟨vs, T, hw.trans h1, h2, h3⟩, fun o ho => hn o (h4 o ho)⟩
  | arr sz rows cap =>
    obtain ⟨⟨vs, T, h1, h2, h3, h5, h6⟩, h4⟩ := h
    exact ⟨⟨vs, T, hw.trans h1, h2, h3, RAll.mono hM _ _ h5, h6⟩, fun o => hn o (h4 o)⟩
  | map es =>
    obtain ⟨⟨ms, c, h1, h2, h3⟩, h4⟩ := h
    exact ⟨⟨ms, c, hw.trans h1, h2.mono hM, h3⟩, fun o => hn o (h4 o)⟩
  | siter s pos => exact ⟨hw.trans h.1, fun o => hn o (h.2 o)⟩
  | obj o env tm => exact ⟨hw.trans h.1, fun k => hn k (h.2.1 k), fun i => R.mono hM _ _ (h.2.2 i)⟩

theorem BoxR.lt {M : Mem} {w : World} {b : Nat} {x : Box} (h : BoxR M w b x) : b < w.heap.size := by
  have : ∃ o, w.heap[b]? = some o := by
    cases x with
    | cells cs => obtain ⟨⟨vs, T, h1, _⟩, _⟩ := h; exact ⟨_, h1⟩
    | tail sz n cap => obtain ⟨⟨vs, T, h1, _⟩, _⟩ := h; exact ⟨_, h1⟩
    | arr sz rows cap => obtain ⟨⟨vs, T, h1, _⟩, _⟩ := h; exact ⟨_, h1⟩
    | map es => obtain ⟨⟨ms, c, h1, _⟩, _⟩ := h; exact ⟨_, h1⟩
    | siter s pos => exact ⟨_, h.1⟩
    | obj o env tm => exact ⟨_, h.1⟩
  obtain ⟨o, ho⟩ := this
  exact (Array.getElem?_eq_some_iff.1 ho).1

structure Conc (M : Mem) (w : World) (σ : Store) : Prop where
  mem : ∀ b o x, M b o = some x → w.cell? ⟨b, o, none⟩ = some x
  nodup : σ.keys.Nodup
  box : ∀ b x, (b, x) ∈ σ → BoxR M w b x

theorem Conc.lt {M : Mem} {w : World} {σ : Store} (h : Conc M w σ) {b : Nat} (hb : b ∈ σ.keys) : b < w.heap.size := by
  obtain ⟨⟨b', x⟩, hm, rfl⟩ := List.mem_map.1 hb
  exact (h.box _ _ hm).lt

theorem Conc.memLt {M : Mem} {w : World} {σ : Store} (h : Conc M w σ) {b o : Nat} {x : Value} (hx : M b o = some x) : b < w.heap.size :=
  World.block_lt_of_cell? (a := ⟨b, o, none⟩) w (h.mem _ _ _ hx)

structure Step (M : Mem) (w : World) (σ : Store) (M' : Mem) (w' : World) (σ' : Store) : Prop where
  le : Mem.le M M'
  os : w'.os = w.os
  tape : w'.tape = w.tape
  output : w'.output = w.output
  size : w.heap.size ≤ w'.heap.size
  block : ∀ b, b < w.heap.size → b ∉ σ.keys → w'.heap[b]? = w.heap[b]?
  keys : ∀ b, b ∈ σ'.keys → b ∈ σ.keys ∨ w.heap.size ≤ b
  grow : ∀ b o x, M' b o = some x → M b o = some x ∨ w.heap.size ≤ b ∨ b ∈ σ.keys

theorem Step.refl (M : Mem) (w : World) (σ : Store) : Step M w σ M w σ :=
  ⟨Mem.le.refl _, rfl, rfl, rfl, Nat.le_refl _, fun _ _ _ => rfl, fun _ h => .inl h, fun _ _ _ h => .inl h⟩

theorem Step.trans {M M' M'' : Mem} {w w' w'' : World} {σ σ' σ'' : Store} (h : Step M w σ M' w' σ') (k : Step M' w' σ' M'' w'' σ'') : Step M w σ M'' w'' σ'' where
  le := h.le.trans k.le
  os := k.os.trans h.os
  tape := k.tape.trans h.tape
  output := k.output.trans h.output
  size := Nat.le_trans h.size k.size
  block b hb hn := (k.block b (Nat.lt_of_lt_of_le hb h.size) (fun hc => (h.keys b hc).elim hn (fun hs => by omega))).trans (h.block b hb hn)
  keys b hb := (k.keys b hb).elim (fun hc => h.keys b hc) (fun hs => .inr (Nat.le_trans h.size hs))
  grow b o x hx := (k.grow b o x hx).elim (fun h1 => h.grow b o x h1) (fun h1 => h1.elim (fun hs => .inr (.inl (Nat.le_trans h.size hs))) (fun hc => (h.keys b hc).elim (fun hk => .inr (.inr hk)) (fun hs => .inr (.inl hs))))

/-- Boxes may be forgotten. -/
theorem Conc.sub {M : Mem} {w : World} {σ σ' : Store} (h : Conc M w σ) (hs : σ'.Sublist σ) : Conc M w σ' :=
  ⟨h.mem, (hs.map Prod.fst).nodup h.nodup, fun b x hb => h.box b x (hs.subset hb)⟩

theorem Step.sub {M M' : Mem} {w w' : World} {σ σ' σ'' : Store} (h : Step M w σ M' w' σ') (hs : σ''.Sublist σ') : Step M w σ M' w' σ'' :=
  { h with keys := fun b hb => h.keys b ((hs.map Prod.fst).subset hb) }

end Go.Proofs.Ytgccnkihonmlbaa

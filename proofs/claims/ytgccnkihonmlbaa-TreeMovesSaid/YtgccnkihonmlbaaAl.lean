/- Own layer, part 21: from what a row tells of its arguments to plain data. -/
import Derived.Test.YtgccnkihonmlbaaAk
import Derived.ProofKit
namespace Go.Proofs.Ytgccnkihonmlbaa
open Go Go.RowKit
set_option linter.unusedSimpArgs false
set_option linter.unusedVariables false

/-- All the memory that there is. -/
def wholeMem (w : World) : Mem := fun b o => w.cell? ⟨b, o, none⟩
theorem Conc.whole (w : World) : Conc (wholeMem w) w [] := ⟨fun _ _ _ h => h, by simp [Store.keys], fun _ _ h => by cases h⟩

def contig (P : Program) : Nat → List Field → Nat → Bool
  | off, [], n => off == n
  | off, f :: fs, n => f.offset == off && contig P (off + P.cellsOf f.type) fs n

/-- Types of data that hold no pointers, maps, functions or interfaces. -/
def plainT (P : Program) : Nat → TypeId → Bool
  | 0, _ => false
  | n + 1, t => match P.underlying t with
    | some .bool | some (.int _) | some .string => P.cellsOf t == 1
    | some (.slice e) => P.cellsOf t == 1 && decide (0 < P.cellsOf e) && plainT P n e
    | some (.struct fs) => contig P 0 fs.toList (P.cellsOf t) && fs.toList.all fun f => plainT P n f.type
    | some (.array k e) => k * P.cellsOf e == P.cellsOf t && plainT P n e
    | _ => false

def ShF (S : TypeId → List D → Prop) : List Field → List D → Prop
  | [], ds => ds = []
  | f :: fs, ds => ∃ a b, ds = a ++ b ∧ S f.type a ∧ ShF S fs b
def ShN (S : List D → Prop) : Nat → List D → Prop
  | 0, ds => ds = []
  | n + 1, ds => ∃ a b, ds = a ++ b ∧ S a ∧ ShN S n b

/-- The shape of a type's plain data. -/
def Sh (P : Program) : Nat → TypeId → List D → Prop
  | 0, _, _ => False
  | n + 1, t, ds => match P.underlying t with
    | some .bool => ∃ b, ds = [.bool b]
    | some (.int k) => ∃ x, ds = [.int k x]
    | some .string => ∃ s, ds = [.str s]
    | some (.slice e) => ∃ rows, ds = [.sl (P.cellsOf e) rows .no] ∧ ∀ r ∈ rows, Sh P n e r
    | some (.struct fs) => ShF (Sh P n) fs.toList ds
    | some (.array k e) => ShN (Sh P n e) k ds
    | _ => False

section
variable {H : Type} {enc : TypeId × Value → H} {P : Program} {w : World} {spare : Nat → Bool} {held : Bool}

theorem mapM_get {α β : Type} {f : α → Option β} : ∀ {l : List α} {r : List β}, l.mapM f = some r → r.length = l.length ∧ ∀ (i : Nat) (x : α), l[i]? = some x → ∃ y, f x = some y
  | [], r, h => by simp only [List.mapM_nil] at h; cases h; exact ⟨rfl, by simp⟩
  | a :: l, r, h => by
    simp only [List.mapM_cons, Option.bind_eq_bind, Option.bind_eq_some_iff] at h
    obtain ⟨y, hy, ys, hys, e⟩ := h
    cases e
    obtain ⟨h1, h2⟩ := mapM_get hys
    refine ⟨by simp [h1], fun i x hx => ?_⟩
    cases i with
    | zero => simp at hx; subst hx; exact ⟨y, hy⟩
    | succ i => exact h2 i x (by simpa using hx)

def GoodRow (P : Program) (w : World) (n : Nat) (t : TypeId) (cs : List Value) : Prop :=
  ∃ ds, RAll (wholeMem w) ds cs ∧ Sh P n t ds ∧ cs.length = P.cellsOf t ∧ ds.all D.isCell = true

theorem good_one {n : Nat} {t : TypeId} {d : D} {v : Value} (h : R (wholeMem w) d v) (hc : d.isCell = true) (hs : Sh P n t [d]) (h1 : P.cellsOf t = 1) : GoodRow P w n t [v] :=
  ⟨[d], by simp only [RAll]; exact ⟨h, trivial⟩, hs, by simp [h1], by simp [hc]⟩

theorem RAll_split {M : Mem} : ∀ {a b : List D} {vs : List Value}, RAll M a (vs.take a.length) → RAll M b (vs.drop a.length) → RAll M (a ++ b) vs := by
  intro a b vs h1 h2
  have := RAll.append h1 h2
  rwa [List.take_append_drop] at this

theorem good_fields {n : Nat} (ih : ∀ t fuel cs x, plainT P n t = true → DataW.trod enc P w 0 spare held fuel t cs = some x → GoodRow P w n t cs) {fuel : Nat} {cs : List Value} :
    ∀ (fs : List Field) (off N : Nat), contig P off fs N = true → (fs.all fun f => plainT P n f.type) = true → cs.length = N →
      (∀ f ∈ fs, ∃ y, DataW.trod enc P w 0 spare held fuel f.type ((cs.drop f.offset).take (P.cellsOf f.type)) = some y) →
      ∃ ds, RAll (wholeMem w) ds (cs.drop off) ∧ ShF (Sh P n) fs ds ∧ ds.all D.isCell = true
  | [], off, N, hc, _, hl, _ => by
    simp only [contig, beq_iff_eq] at hc
    exact ⟨[], by rw [List.drop_eq_nil_of_le (by omega)]; simp [RAll], rfl, rfl⟩
  | f :: fs, off, N, hc, hp, hl, hf => by
    simp only [contig, Bool.and_eq_true, beq_iff_eq] at hc
    simp only [List.all_cons, Bool.and_eq_true] at hp
    obtain ⟨y, hy⟩ := hf f (by simp)
    obtain ⟨d1, r1, s1, l1, c1⟩ := ih _ _ _ _ hp.1 hy
    obtain ⟨d2, r2, s2, c2⟩ := good_fields ih fs (off + P.cellsOf f.type) N hc.2 hp.2 hl (fun g hg => hf g (List.mem_cons_of_mem _ hg))
    rw [hc.1] at r1 l1
    have hd1 : d1.length = P.cellsOf f.type := by rw [r1.length]; exact l1
    refine ⟨d1 ++ d2, RAll_split (by rw [hd1]; exact r1) (by rw [hd1, List.drop_drop]; exact r2), ⟨d1, d2, rfl, s1, s2⟩, by simp [c1, c2]⟩

theorem good_elems {n : Nat} {e : TypeId} (hp : plainT P n e = true) (ih : ∀ t fuel cs x, plainT P n t = true → DataW.trod enc P w 0 spare held fuel t cs = some x → GoodRow P w n t cs) {fuel : Nat} {cs : List Value} :
    ∀ (k i : Nat), cs.length = (i + k) * P.cellsOf e → (∀ j, i ≤ j → j < i + k → ∃ y, DataW.trod enc P w 0 spare held fuel e ((cs.drop (j * P.cellsOf e)).take (P.cellsOf e)) = some y) →
      ∃ ds, RAll (wholeMem w) ds (cs.drop (i * P.cellsOf e)) ∧ ShN (Sh P n e) k ds ∧ ds.all D.isCell = true
  | 0, i, hl, _ => ⟨[], by rw [List.drop_eq_nil_of_le (by simp at hl; omega)]; simp [RAll], rfl, rfl⟩
  | k + 1, i, hl, hf => by
    obtain ⟨y, hy⟩ := hf i (Nat.le_refl _) (by omega)
    obtain ⟨d1, r1, s1, l1, c1⟩ := ih _ _ _ _ hp hy
    obtain ⟨d2, r2, s2, c2⟩ := good_elems hp ih k (i + 1) (by rw [hl]; congr 1; omega) (fun j h1 h2 => hf j (by omega) (by omega))
    have hd1 : d1.length = P.cellsOf e := by rw [r1.length]; exact l1
    refine ⟨d1 ++ d2, RAll_split (by rw [hd1]; exact r1) (by rw [hd1, List.drop_drop, show i * P.cellsOf e + P.cellsOf e = (i + 1) * P.cellsOf e by rw [Nat.add_mul, Nat.one_mul]]; exact r2), ⟨d1, d2, rfl, s1, s2⟩, by simp [c1, c2]⟩

theorem cells_get {a : Addr} {n : Nat} {row : List Value} (hn : 0 < n) (h : w.cells? 0 a n = some row) : a.spot = none ∧ row.length = n ∧ ∀ i v, row[i]? = some v → wholeMem w a.block (a.off + i) = some v := by
  unfold World.cells? at h
  rw [if_pos (Nat.zero_le _)] at h
  have key : ∀ (l : List Nat) (r : List Value), l.mapM (fun i => w.cell? (a.add i)) = some r → r.length = l.length ∧ ∀ (j : Nat) v, r[j]? = some v → ∃ i, l[j]? = some i ∧ w.cell? (a.add i) = some v := by
    intro l
    induction l with
    | nil => intro r h; simp only [List.mapM_nil] at h; cases h; exact ⟨rfl, by simp⟩
    | cons x l ih =>
      intro r h
      simp only [List.mapM_cons, Option.bind_eq_bind, Option.bind_eq_some_iff] at h
      obtain ⟨y, hy, ys, hys, e⟩ := h
      cases e
      obtain ⟨h1, h2⟩ := ih ys hys
      refine ⟨by simp [h1], fun j v hv => ?_⟩
      cases j with
      | zero => simp at hv; subst hv; exact ⟨x, by simp, hy⟩
      | succ j => simpa using h2 j v (by simpa using hv)
  obtain ⟨h1, h2⟩ := key _ _ h
  simp only [List.length_range] at h1
  have get : ∀ i v, row[i]? = some v → w.cell? (a.add i) = some v := fun i v hv => by
    obtain ⟨j, hj, hc⟩ := h2 i v hv
    obtain ⟨hlt, e⟩ := List.getElem?_eq_some_iff.1 hj
    simp at e
    subst e
    exact hc
  have hspot : a.spot = none := by
    obtain ⟨v, hv⟩ : ∃ v, row[0]? = some v := ⟨row[0]'(by omega), by simp [show 0 < row.length by omega]⟩
    have := get 0 v hv
    unfold World.cell? at this
    split at this
    · split at this
      · cases this
      · rename_i hs
        cases e : a.spot with
        | none => rfl
        | some x => simp [Addr.add, e] at hs
    · cases this
  refine ⟨hspot, h1, fun i v hv => ?_⟩
  have := get i v hv
  cases a with
  | mk b o sp =>
    simp only at hspot
    subst hspot
    rw [addr_add] at this
    exact this

theorem good_rows {n : Nat} {e : TypeId} (hp : plainT P n e = true) (hc : 0 < P.cellsOf e) (ih : ∀ t fuel cs x, plainT P n t = true → DataW.trod enc P w 0 spare held fuel t cs = some x → GoodRow P w n t cs) {fuel : Nat} {b o : Nat} :
    ∀ (k i : Nat), (∀ j, i ≤ j → j < i + k → ∃ row y, w.cells? 0 ((⟨b, o, none⟩ : Addr).add (j * P.cellsOf e)) (P.cellsOf e) = some row ∧ DataW.trod enc P w 0 spare held fuel e row = some y) →
      ∃ rows, rows.length = k ∧ (∀ r ∈ rows, Sh P n e r) ∧ RRows (wholeMem w) (P.cellsOf e) rows b (o + i * P.cellsOf e)
  | 0, i, _ => ⟨[], rfl, by simp, by simp [RRows]⟩
  | k + 1, i, hf => by
    obtain ⟨row, y, h1, h2⟩ := hf i (Nat.le_refl _) (by omega)
    obtain ⟨ds, r1, s1, l1, c1⟩ := ih _ _ _ _ hp h2
    obtain ⟨rows, q1, q2, q4⟩ := good_rows hp hc ih (b := b) (o := o) k (i + 1) (fun j g1 g2 => hf j (by omega) (by omega))
    obtain ⟨z1, z2, z3⟩ := cells_get hc h1
    rw [addr_add] at z3
    refine ⟨ds :: rows, by simp [q1], fun r hr => ?_, ?_⟩
    · rcases List.mem_cons.1 hr with rfl | hr
      · exact s1
      · exact q2 r hr
    · simp only [RRows]
      exact ⟨by rw [r1.length]; exact l1, RCells_of _ _ _ r1 z3, by rw [Nat.add_assoc, show i * P.cellsOf e + P.cellsOf e = (i + 1) * P.cellsOf e by rw [Nat.add_mul, Nat.one_mul]]; exact q4⟩

/-- WHAT IS TROD IS PLAIN DATA. -/
theorem good_trod : ∀ (n : Nat) (t : TypeId) (fuel : Nat) (cs : List Value) (x : DataW H × List MemPlace), plainT P n t = true → DataW.trod enc P w 0 spare held fuel t cs = some x → GoodRow P w n t cs
  | 0, t, _, _, _, hp, _ => by simp [plainT] at hp
  | n + 1, t, 0, _, _, _, h => by simp [DataW.trod] at h
  | n + 1, t, fuel + 1, cs, x, hp, h => by
    have ih := good_trod n
    unfold plainT at hp
    unfold DataW.trod at h
    split at hp
    · rename_i hu
      simp only [beq_iff_eq] at hp
      simp only [hu] at h
      split at h <;> first | (cases h; done) | (rename_i heq; cases heq; done) | (rename_i heq _; cases heq; done) | (rename_i heq _ _; cases heq; done) | skip
      exact good_one (d := .bool _) R_bool rfl (by unfold Sh; simp only [hu]; exact ⟨_, rfl⟩) hp
    · rename_i k hu
      simp only [beq_iff_eq] at hp
      simp only [hu] at h
      split at h <;> first | (cases h; done) | (rename_i heq; cases heq; done) | (rename_i heq _; cases heq; done) | (rename_i heq _ _; cases heq; done) | skip
      rename_i k1 k2 x1 heq
      cases heq
      split at h
      · rename_i hk
        obtain ⟨rfl, hwf⟩ := hk
        simp only [Lit.wf, Bool.and_eq_true, decide_eq_true_eq] at hwf
        exact good_one (d := .int _ _) (R_int hwf) rfl (by unfold Sh; simp only [hu]; exact ⟨_, rfl⟩) hp
      · cases h
    · rename_i hu
      simp only [beq_iff_eq] at hp
      simp only [hu] at h
      split at h <;> first | (cases h; done) | (rename_i heq; cases heq; done) | (rename_i heq _; cases heq; done) | (rename_i heq _ _; cases heq; done) | skip
      rename_i s1 heq
      split at h
      · rename_i hl
        cases s1 with
        | mk dd =>
          cases dd with
          | mk ll =>
            refine good_one (d := .str ll) (R_str ?_) rfl (by unfold Sh; simp only [hu]; exact ⟨_, rfl⟩) hp
            have : ll.length ≤ maxLen := hl
            simpa [lim, maxLen] using this
      · cases h
    · rename_i e hu
      simp only [Bool.and_eq_true, beq_iff_eq, decide_eq_true_eq] at hp
      obtain ⟨⟨hp1, hp2⟩, hp3⟩ := hp
      simp only [hu] at h
      split at h <;> first | (cases h; done) | (rename_i heq; cases heq; done) | (rename_i heq _; cases heq; done) | (rename_i heq _ _; cases heq; done) | skip
      · refine good_one (d := .sl (P.cellsOf e) [] .no) ?_ rfl (by unfold Sh; simp only [hu]; exact ⟨[], rfl, by simp⟩) hp1
        simp only [R]
        exact ⟨none, 0, rfl, by simp, by simp, by simp, trivial⟩
      · rename_i e1 a1 len cap heq
        cases heq
        split at h
        · rename_i hb
          obtain ⟨_, hb2, hb3⟩ := hb
          simp only [Option.bind_eq_some_iff] at h
          obtain ⟨elems, hel, _⟩ := h
          have each : ∀ j, j < len → ∃ row y, w.cells? 0 (a1.add (j * P.cellsOf e)) (P.cellsOf e) = some row ∧ DataW.trod enc P w 0 spare held fuel e row = some y := by
            intro j hj
            obtain ⟨y, hy⟩ := (mapM_get hel).2 j j (by simp [hj])
            simp only [Option.bind_eq_some_iff] at hy
            obtain ⟨row, h1, h2⟩ := hy
            exact ⟨row, y, h1, h2⟩
          have hlim : len ≤ lim := by have : maxLen = lim := rfl; omega
          rcases Nat.eq_zero_or_pos len with rfl | hpos
          · refine good_one (d := .sl (P.cellsOf e) [] .no) ?_ rfl (by unfold Sh; simp only [hu]; exact ⟨[], rfl, by simp⟩) hp1
            simp only [R]
            exact ⟨some a1, cap, rfl, by simp, by simp, by simp, trivial⟩
          · have hsp : a1.spot = none := by
              obtain ⟨row, y, h1, _⟩ := each 0 hpos
              rw [Nat.zero_mul] at h1
              exact (cells_get hp2 h1).1
            cases a1 with
            | mk b o sp =>
              simp only at hsp
              subst hsp
              obtain ⟨rows, q1, q2, q4⟩ := good_rows hp3 hp2 ih (b := b) (o := o) len 0 (fun j _ hj => each j (by omega))
              subst q1
              refine good_one (d := .sl (P.cellsOf e) rows .no) ?_ rfl (by unfold Sh; simp only [hu]; exact ⟨rows, rfl, q2⟩) hp1
              simp only [R]
              rw [Nat.zero_mul, Nat.add_zero] at q4
              exact ⟨_, cap, rfl, hb2, hlim, fun _ => ⟨b, o, rfl, q4⟩, trivial⟩
        · cases h
    · rename_i fs hu
      simp only [Bool.and_eq_true] at hp
      simp only [hu] at h
      split at h <;> first | (cases h; done) | (rename_i heq; cases heq; done) | (rename_i heq _; cases heq; done) | (rename_i heq _ _; cases heq; done) | skip
      · rename_i hl
        simp only [Option.map_eq_some_iff] at h
        obtain ⟨xs, hxs, _⟩ := h
        obtain ⟨ds, r1, s1, c1⟩ := good_fields ih fs.toList 0 (P.cellsOf t) hp.1 hp.2 hl (fun f hf => by
          obtain ⟨i, hi, e⟩ := List.getElem_of_mem hf
          exact (mapM_get hxs).2 i f (by rw [List.getElem?_eq_getElem hi, e]))
        exact ⟨ds, by simpa using r1, by unfold Sh; simp only [hu]; exact s1, hl, c1⟩
    · rename_i k e hu
      simp only [Bool.and_eq_true, beq_iff_eq] at hp
      simp only [hu] at h
      split at h <;> first | (cases h; done) | (rename_i heq; cases heq; done) | (rename_i heq _; cases heq; done) | (rename_i heq _ _; cases heq; done) | skip
      · rename_i hl
        simp only [Option.map_eq_some_iff] at h
        obtain ⟨xs, hxs, _⟩ := h
        obtain ⟨ds, r1, s1, c1⟩ := good_elems hp.2 ih k 0 (by rw [hl, Nat.zero_add]; exact hp.1.symm) (fun j _ hj => (mapM_get hxs).2 j j (List.getElem?_range (by omega)))
        exact ⟨ds, by simpa using r1, by unfold Sh; simp only [hu]; exact s1, hl, c1⟩
    · cases hp

end

end Go.Proofs.Ytgccnkihonmlbaa

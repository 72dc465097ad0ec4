/- Own layer, part 7: how the store and the memory change; frames of calls. -/
import Derived.Test.YtgccnkihonmlbaaA6
namespace Go.Proofs.Ytgccnkihonmlbaa
open Go Go.RowKit
set_option linter.unusedSimpArgs false
set_option linter.unusedVariables false

section
variable {P : Program} {M : Mem} {w w' : World} {σ : Store}

theorem CallsV.mono {f : Fn} {vs : Array Value} {Q Q' : Ending → World → Prop} (h : CallsV P f vs w Q) (hq : ∀ e w', Q e w' → Q' e w') : CallsV P f vs w Q' := by
  cases f with
  | func g => exact h.imp (fun h => ⟨h.1, h.2.mono hq⟩) (fun ⟨v, w', h1, h2⟩ => ⟨v, w', h1, hq _ _ h2⟩)
  | yield l => obtain ⟨fn, t, a, b, h1, h2⟩ := h; exact ⟨fn, t, a, b, h1, h2.mono hq⟩
  | method _ => exact h
  | methodOf _ _ => exact h
  | via _ _ _ _ => exact h

theorem ACall.mono {f : Fn} {args : List D} {Q Q' : Res → Store → Prop} (h : ACall P f args σ Q) (hq : ∀ r σ', Q r σ' → Q' r σ') : ACall P f args σ Q' :=
  fun M w vs hc hr => (h M w vs hc hr).mono fun _ _ ⟨M', σ', r, h1, h2, h3, h4⟩ => ⟨M', σ', r, h1, h2, h3, hq _ _ h4⟩

/-- Calls may forget boxes at their end. -/
theorem ACall.sub {f : Fn} {args : List D} {Q : Res → Store → Prop} (h : ACall P f args σ fun r σ1 => ∃ σ2 : Store, σ2.Sublist σ1 ∧ Q r σ2) : ACall P f args σ Q :=
  fun M w vs hc hr => (h M w vs hc hr).mono fun _ _ ⟨M', σ', r, h1, h2, h3, σ2, h4, h5⟩ => ⟨M', σ2, r, h1.sub h4, h2.sub h4, h3, h5⟩

theorem Store.keys_append (σ ρ : Store) : Store.keys (σ ++ ρ) = σ.keys ++ ρ.keys := by simp [Store.keys]

/-- THE FRAME: what a call does not see it leaves as it was. -/
theorem ACall.frame {f : Fn} {args : List D} {Q : Res → Store → Prop} (ρ : Store) (h : ACall P f args σ Q) :
    ACall P f args (σ ++ ρ) fun r σ' => ∃ σ1, σ' = σ1 ++ ρ ∧ Q r σ1 := by
  intro M w vs hc hr
  have hn := hc.nodup
  rw [Store.keys_append] at hn
  have hd := (List.nodup_append.1 hn).2.2
  have hc1 : Conc M w σ := hc.sub (List.sublist_append_left σ ρ)
  refine (h M w vs hc1 hr).mono ?_
  rintro e w' ⟨M', σ1, r, hs, hc', hr', hq⟩
  have hout : ∀ b, b ∈ ρ.keys → b ∉ σ.keys := fun b hb hb' => hd b hb' b hb rfl
  have hlt : ∀ b, b ∈ ρ.keys → b < w.heap.size := fun b hb => hc.lt (by rw [Store.keys_append]; exact List.mem_append_right _ hb)
  have hdis : ∀ b, b ∈ σ1.keys → b ∉ ρ.keys := fun b hb hb' => (hs.keys b hb).elim (hout b hb') (fun h => by have := hlt b hb'; omega)
  refine ⟨M', σ1 ++ ρ, r, ?_, ?_, hr', σ1, rfl, hq⟩
  · refine { le := hs.le, os := hs.os, tape := hs.tape, output := hs.output, size := hs.size, block := ?_, keys := ?_, grow := ?_ }
    · intro b hb hn'
      rw [Store.keys_append] at hn'
      exact hs.block b hb (fun h => hn' (List.mem_append_left _ h))
    · intro b hb
      rw [Store.keys_append] at hb ⊢
      rcases List.mem_append.1 hb with hb | hb
      · exact (hs.keys b hb).imp (List.mem_append_left _) id
      · exact .inl (List.mem_append_right _ hb)
    · intro b o x hx
      rw [Store.keys_append]
      rcases hs.grow b o x hx with h | h | h
      · exact .inl h
      · exact .inr (.inl h)
      · exact .inr (.inr (List.mem_append_left _ h))
  · refine ⟨hc'.mem, ?_, ?_⟩
    · rw [Store.keys_append]
      exact List.nodup_append.2 ⟨hc'.nodup, (List.nodup_append.1 hn).2.1, fun a ha b hb e => hdis a ha (e ▸ hb)⟩
    · intro b x hb
      rcases List.mem_append.1 hb with hb | hb
      · exact hc'.box b x hb
      · have hbk : b ∈ ρ.keys := List.mem_map_of_mem (f := Prod.fst) hb
        refine (hc.box b x (List.mem_append_right _ hb)).mono hs.le ?_ (hs.block b (hlt b hbk) (hout b hbk))
        intro o v hv
        rcases hs.grow b o v hv with h | h | h
        · exact h
        · have := hlt b hbk; omega
        · exact absurd h (hout b hbk)

theorem PCall.at {f : Fn} {args : List D} {d : D} (h : PCall P f args d) (σ : Store) : ACall P f args σ fun r σ' => r = .ret d ∧ σ' = σ := by
  have := ACall.frame σ h
  exact ACall.mono this fun r _ ⟨σ1, h1, h2, h3⟩ => ⟨h2, by rw [h1, h3]; rfl⟩

/-! ### New blocks -/
theorem alloc_heap_old (w : World) (o : Obj) {b : Nat} (h : b < w.heap.size) : (w.alloc o).heap[b]? = w.heap[b]? := Below.heap_alloc w o b h
theorem alloc_heap_new (w : World) (o : Obj) : (w.alloc o).heap[w.heap.size]? = some o := by
  show (w.heap.push o)[w.heap.size]? = _
  simp

theorem Conc.mem_none (hc : Conc M w σ) (o : Nat) : M w.heap.size o = none := by
  cases e : M w.heap.size o with
  | none => rfl
  | some x => have := hc.memLt e; omega

theorem cell?_alloc (w : World) (o : Obj) {b i : Nat} (h : b < w.heap.size) : (w.alloc o).cell? ⟨b, i, none⟩ = w.cell? ⟨b, i, none⟩ := by
  simp only [World.cell?, alloc_heap_old w o h]

/-- A new block that is a box of its own. -/
theorem Conc.newBox (hc : Conc M w σ) {o : Obj} {x : Box} (hb : BoxR M (w.alloc o) w.heap.size x) :
    Conc M (w.alloc o) ((w.heap.size, x) :: σ) ∧ Step M w σ M (w.alloc o) ((w.heap.size, x) :: σ) ∧ w.heap.size ∉ σ.keys := by
  have hk : w.heap.size ∉ σ.keys := fun h => by have := hc.lt h; omega
  refine ⟨⟨fun b i v h => by rw [cell?_alloc w o (hc.memLt h)]; exact hc.mem b i v h, ?_, ?_⟩, ?_, hk⟩
  · simp only [Store.keys, List.map_cons, List.nodup_cons]
    exact ⟨hk, hc.nodup⟩
  · intro b y hy
    rcases List.mem_cons.1 hy with hy | hy
    · cases hy; exact hb
    · exact (hc.box b y hy).mono (Mem.le.refl _) (fun _ _ h => h) (alloc_heap_old w o (hc.box b y hy).lt)
  · exact { le := Mem.le.refl _, os := rfl, tape := rfl, output := rfl, size := by simp, block := fun b hb _ => alloc_heap_old w o hb,
            keys := fun b hb => by
              simp only [Store.keys, List.map_cons, List.mem_cons] at hb
              exact hb.elim (fun e => .inr (by omega)) .inl,
            grow := fun _ _ _ h => .inl h }

def Mem.add (M : Mem) (b : Nat) (vs : List Value) : Mem := fun b' o => if b' = b then vs[o]? else M b' o

theorem RCells_of (M : Mem) (b : Nat) : ∀ {cs : List D} {vs : List Value} (o : Nat), RAll M cs vs → (∀ i v, vs[i]? = some v → M b (o + i) = some v) → RCells M cs b o
  | [], _, _, _, _ => by simp only [RCells]
  | c :: cs, v :: vs, o, h, hm => by
    simp only [RAll] at h
    simp only [RCells]
    refine ⟨⟨v, by simpa using hm 0 v rfl, h.1⟩, RCells_of M b (o + 1) h.2 fun i u hu => ?_⟩
    have := hm (i + 1) u (by simpa using hu)
    rwa [show o + 1 + i = o + (i + 1) from by omega]
  | _ :: _, [], _, h, _ => by simp [RAll] at h

/-- A new block that nobody will write to again. -/
theorem Conc.newImm (hc : Conc M w σ) (vs : List Value) (T : TypeId) (fz : Nat × Nat) :
    Conc (M.add w.heap.size vs) (w.alloc (.cells (List.toArray vs) T fz)) σ ∧ Step M w σ (M.add w.heap.size vs) (w.alloc (.cells (List.toArray vs) T fz)) σ ∧
    (∀ i v, vs[i]? = some v → M.add w.heap.size vs w.heap.size i = some v) := by
  have hle : Mem.le M (M.add w.heap.size vs) := fun b o x h => by
    unfold Mem.add
    rw [if_neg (by have := hc.memLt h; omega)]
    exact h
  have hg : ∀ b o x, M.add w.heap.size vs b o = some x → M b o = some x ∨ w.heap.size ≤ b := fun b o x h => by
    unfold Mem.add at h
    split at h
    · exact .inr (by omega)
    · exact .inl h
  refine ⟨⟨?_, hc.nodup, ?_⟩, ?_, fun i v h => by unfold Mem.add; rw [if_pos rfl]; exact h⟩
  · intro b i v h
    unfold Mem.add at h
    split at h
    · rename_i e; subst e
      simp only [World.cell?, alloc_heap_new]
      simpa using h
    · rw [cell?_alloc w _ (hc.memLt h)]; exact hc.mem b i v h
  · intro b y hy
    have hlt := (hc.box b y hy).lt
    refine (hc.box b y hy).mono hle (fun o v h => (hg b o v h).resolve_right (by omega)) (alloc_heap_old w _ hlt)
  · exact { le := hle, os := rfl, tape := rfl, output := rfl, size := by simp, block := fun b hb _ => alloc_heap_old w _ hb, keys := fun b hb => .inl hb,
            grow := fun b o x h => (hg b o x h).imp id .inl }

/-- A box is turned in place. -/
theorem Conc.turn (hc : Conc M w σ) {b : Nat} {y : Box} (hb : b ∈ σ.keys) (hsz : w'.heap.size = w.heap.size) (ho : w'.os = w.os) (ht : w'.tape = w.tape) (hu : w'.output = w.output)
    (hk : ∀ k, k ≠ b → w'.heap[k]? = w.heap[k]?) (hm : ∀ o v, M b o = some v → w'.cell? ⟨b, o, none⟩ = some v) (hy : BoxR M w' b y) :
    Conc M w' (σ.upd b y) ∧ Step M w σ M w' (σ.upd b y) := by
  refine ⟨⟨?_, by rw [Store.keys_upd]; exact hc.nodup, ?_⟩, ?_⟩
  · intro c o v h
    by_cases e : c = b
    · subst e; exact hm o v h
    · have : w'.cell? ⟨c, o, none⟩ = w.cell? ⟨c, o, none⟩ := by simp only [World.cell?, hk c e]
      rw [this]; exact hc.mem c o v h
  · intro c z hz
    rcases Store.mem_upd hc.nodup hz with ⟨rfl, rfl, _⟩ | ⟨h1, h2⟩
    · exact hy
    · exact (hc.box c z h2).mono (Mem.le.refl _) (fun _ _ h => h) (hk c h1)
  · exact { le := Mem.le.refl _, os := ho, tape := ht, output := hu, size := by omega, block := fun c _ hn => hk c (fun e => hn (e ▸ hb)),
            keys := fun c h => .inl (by rwa [Store.keys_upd] at h), grow := fun _ _ _ h => .inl h }

theorem Conc.drew (hc : Conc M w σ) : Conc M w.drew σ := ⟨hc.mem, hc.nodup, fun b x h => (hc.box b x h).mono (Mem.le.refl _) (fun _ _ h => h) rfl⟩
theorem Step.drew (M : Mem) (w : World) (σ : Store) : Step M w σ M w.drew σ :=
  ⟨Mem.le.refl _, rfl, rfl, rfl, Nat.le_refl _, fun _ _ _ => rfl, fun _ h => .inl h, fun _ _ _ h => .inl h⟩

theorem Conc.fresh (hc : Conc M w σ) : w.heap.size ∉ σ.keys := fun h => by have := hc.lt h; omega

/-! ### Stores -/
structure Wr (w w' : World) (b : Nat) : Prop where
  size : w'.heap.size = w.heap.size
  os : w'.os = w.os
  tape : w'.tape = w.tape
  output : w'.output = w.output
  other : ∀ k, k ≠ b → w'.heap[k]? = w.heap[k]?

theorem Wr.refl (w : World) (b : Nat) : Wr w w b := ⟨rfl, rfl, rfl, rfl, fun _ _ => rfl⟩
theorem Wr.trans {a b c : World} {k : Nat} (h : Wr a b k) (h' : Wr b c k) : Wr a c k :=
  ⟨h'.size.trans h.size, h'.os.trans h.os, h'.tape.trans h.tape, h'.output.trans h.output, fun i hi => (h'.other i hi).trans (h.other i hi)⟩

theorem Wr.setCell (w : World) (b o : Nat) (v : Value) : Wr w (w.setCell ⟨b, o, none⟩ v) b :=
  ⟨by simp, rfl, rfl, rfl, fun k hk => Below.heap_setCell w ⟨b, o, none⟩ v k hk⟩

theorem setCell_heap {w : World} {b o : Nat} {vs : List Value} {T : TypeId} {fz : Nat × Nat} (h : w.heap[b]? = some (.cells (List.toArray vs) T fz)) (v : Value) :
    (w.setCell ⟨b, o, none⟩ v).heap[b]? = some (.cells (List.toArray (vs.set o v)) T fz) := by
  simp only [World.setCell, Array.getElem?_modify, if_pos, h]
  simp

theorem run_storeCells {b : Nat} {T : TypeId} : ∀ (xs : List Value) (w : World) (vs : List Value) (o i : Nat), w.heap[b]? = some (.cells (List.toArray vs) T (0, 0)) → o + i + xs.length ≤ vs.length → (∀ x ∈ xs, x.oneCell' = true) →
    ∃ w', (storeCells ⟨b, o, none⟩ xs i).run P w = .ok () w' ∧ Wr w w' b ∧ w'.heap[b]? = some (.cells (List.toArray (vs.take (o + i) ++ xs ++ vs.drop (o + i + xs.length))) T (0, 0))
  | [], w, vs, o, i, h, _, _ => ⟨w, rfl, Wr.refl _ _, by simpa using h⟩
  | x :: xs, w, vs, o, i, h, hl, hx => by
    simp only [List.length_cons] at hl
    have hc : w.cell? ⟨b, o + i, none⟩ = some (vs[o + i]'(by omega)) := by
      simp [World.cell?, h, show o + i < vs.length from by omega]
    have hf : w.frozen? ⟨b, o + i, none⟩ = false := by simp [World.frozen?, h]
    obtain ⟨w', h1, h2, h3⟩ := run_storeCells xs (w.setCell ⟨b, o + i, none⟩ x) (vs.set (o + i) x) o (i + 1) (setCell_heap h x) (by simp; omega) (fun y hy => hx y (List.mem_cons_of_mem _ hy))
    refine ⟨w', ?_, (Wr.setCell w b (o + i) x).trans h2, ?_⟩
    · simp only [storeCells, Sem.run_bind, addr_add]
      rw [run_store P w _ x _ (hx x (by simp))]
      simp only [hc, hf, Bool.false_eq_true, if_false, Result.andThen_ok]
      exact h1
    · rw [h3]
      congr 2
      rw [show o + (i + 1) = (o + i) + 1 from by omega]
      rw [List.take_succ_eq_append_getElem (by simp; omega)]
      simp only [List.getElem_set_self, List.take_set_of_le (Nat.le_refl _), List.length_cons, List.append_assoc, List.cons_append, List.nil_append]
      rw [List.drop_set_of_lt (by omega), show o + i + 1 + xs.length = o + i + (xs.length + 1) from by omega]

theorem RAll_cell {M : Mem} : ∀ {cs : List D} {vs : List Value}, RAll M cs vs → cs.all D.isCell = true → ∀ x ∈ vs, x.oneCell' = true
  | [], [], _, _, _, h => by simp at h
  | c :: cs, v :: vs, h, hc, x, hx => by
    simp only [RAll] at h
    simp only [List.all_cons, Bool.and_eq_true] at hc
    rcases List.mem_cons.1 hx with rfl | hx
    · exact h.1.oneCell hc.1
    · exact RAll_cell h.2 hc.2 x hx
  | [], _ :: _, h, _, _, _ => by simp [RAll] at h
  | _ :: _, [], h, _, _, _ => by simp [RAll] at h

end

end Go.Proofs.Ytgccnkihonmlbaa

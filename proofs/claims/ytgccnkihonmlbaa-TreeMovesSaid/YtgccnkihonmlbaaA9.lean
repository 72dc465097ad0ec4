/- Own layer, part 9: stores and appends are right. -/
import Derived.Test.YtgccnkihonmlbaaA8
namespace Go.Proofs.Ytgccnkihonmlbaa
open Go Go.RowKit
set_option linter.unusedSimpArgs false
set_option linter.unusedVariables false

section
variable {P : Program} {M : Mem} {w : World} {σ : Store} {K X : D → Store → Prop}

/-! ### Rows as one list of cells -/
theorem RCells.append' : ∀ {cs ds : List D} {b o : Nat}, RCells M cs b o → RCells M ds b (o + cs.length) → RCells M (cs ++ ds) b o
  | [], _, _, _, _, h => by simpa using h
  | c :: cs, ds, b, o, h, h' => by
    simp only [RCells, List.cons_append] at h ⊢
    refine ⟨h.1, RCells.append' h.2 ?_⟩
    rwa [List.length_cons, show o + (cs.length + 1) = o + 1 + cs.length from by omega] at h'

theorem RRows.flat {sz : Nat} : ∀ {rows : List (List D)} {b o : Nat}, RRows M sz rows b o → RCells M rows.flatten b o ∧ (∀ r ∈ rows, r.length = sz)
  | [], _, _, _ => by simp [RCells]
  | r :: rs, b, o, h => by
    simp only [RRows] at h
    obtain ⟨h1, h2⟩ := RRows.flat h.2.2
    refine ⟨?_, ?_⟩
    · simp only [List.flatten_cons]
      exact h.2.1.append' (by rw [h.1]; exact h1)
    · intro x hx
      rcases List.mem_cons.1 hx with rfl | hx
      · exact h.1
      · exact h2 x hx

theorem flat_length {sz : Nat} : ∀ {rows : List (List D)}, (∀ r ∈ rows, r.length = sz) → rows.flatten.length = rows.length * sz
  | [], _ => by simp
  | r :: rs, h => by
    simp only [List.flatten_cons, List.length_append, List.length_cons, h r (by simp), flat_length (fun x hx => h x (List.mem_cons_of_mem _ hx)), Nat.add_mul]
    omega

theorem RCells.left : ∀ {cs ds : List D} {b o : Nat}, RCells M (cs ++ ds) b o → RCells M cs b o
  | [], _, _, _, _ => by simp only [RCells]
  | c :: cs, ds, b, o, h => by
    simp only [RCells, List.cons_append] at h ⊢
    exact ⟨h.1, RCells.left h.2⟩

theorem RRows.of_flat {sz : Nat} : ∀ {rows : List (List D)} {b o : Nat}, (∀ r ∈ rows, r.length = sz) → RCells M rows.flatten b o → RRows M sz rows b o
  | [], _, _, _, _ => by simp only [RRows]
  | r :: rs, b, o, hl, h => by
    simp only [List.flatten_cons] at h
    simp only [RRows]
    refine ⟨hl r (by simp), h.left, RRows.of_flat (fun x hx => hl x (List.mem_cons_of_mem _ hx)) ?_⟩
    have := RCells.drop r.length h
    rw [List.drop_left] at this
    rwa [hl r (by simp)] at this

theorem flat_take {sz : Nat} : ∀ {rows : List (List D)}, (∀ r ∈ rows, r.length = sz) → ∀ {n : Nat}, (rows.take n).flatten = rows.flatten.take (n * sz)
  | [], _, n => by simp
  | r :: rows, h, 0 => by simp
  | r :: rows, h, n + 1 => by
    have hr := h r (by simp)
    have ih := flat_take (rows := rows) (fun q hq => h q (List.mem_cons_of_mem _ hq)) (n := n)
    simp only [List.take_succ_cons, List.flatten_cons, ih]
    rw [show (n + 1) * sz = r.length + n * sz from by rw [hr, Nat.add_mul]; omega, List.take_length_add_append]

theorem flat_drop {sz : Nat} : ∀ {rows : List (List D)}, (∀ r ∈ rows, r.length = sz) → ∀ {n : Nat}, (rows.drop n).flatten = rows.flatten.drop (n * sz)
  | [], _, n => by simp
  | r :: rows, h, 0 => by simp
  | r :: rows, h, n + 1 => by
    have hr := h r (by simp)
    have ih := flat_drop (rows := rows) (fun q hq => h q (List.mem_cons_of_mem _ hq)) (n := n)
    simp only [List.drop_succ_cons, List.flatten_cons, ih]
    rw [show (n + 1) * sz = r.length + n * sz from by rw [hr, Nat.add_mul]; omega, List.drop_length_add_append]

/-- The cells that a slice, or a string, hands to append or copy. -/
theorem rows_cells (hc : Conc M w σ) {x : D} {v : Value} {sz : Nat} {rows : List (List D)} (hx : R M x v) (hr : rowsOf σ x = some (sz, rows)) :
    ∃ vs, Builtin.lenOf v = pure rows.length ∧ (∀ s, (rows = [] ∨ s = sz) → (Builtin.firstCells s rows.length v).run P w = .ok (List.toArray vs) w) ∧ RAll M rows.flatten vs ∧ (∀ r ∈ rows, r.length = sz) := by
  unfold rowsOf at hr
  split at hr
  · rename_i sz' rows' tk
    simp only [Option.some.injEq, Prod.mk.injEq] at hr
    obtain ⟨rfl, rfl⟩ := hr
    simp only [R] at hx
    obtain ⟨p, cap, rfl, _, _, h3, _⟩ := hx
    by_cases hne : rows' = []
    · subst hne
      refine ⟨[], rfl, fun s _ => ?_, by simp [RAll], by simp⟩
      cases p with
      | none => rfl
      | some a =>
        simp only [Builtin.firstCells, List.length_nil, Nat.zero_mul]
        rfl
    · obtain ⟨b, o, rfl, hrr⟩ := h3 hne
      obtain ⟨h4, h5⟩ := hrr.flat
      obtain ⟨vs, h6, h7⟩ := run_loadCells (P := P) (n := rows'.length * sz') (h4.toW hc) (by rw [flat_length h5]; exact Nat.le_refl _)
      refine ⟨vs, rfl, fun s hs => ?_, by rwa [List.take_of_length_le (by rw [flat_length h5]; exact Nat.le_refl _)] at h7, h5⟩
      obtain rfl := hs.resolve_left hne
      exact h6
  · rename_i s
    simp only [Option.some.injEq, Prod.mk.injEq] at hr
    obtain ⟨rfl, rfl⟩ := hr
    simp only [R] at hx
    obtain ⟨rfl, hl⟩ := hx
    refine ⟨s.map fun c => .int .u8 (c.toNat : Int), ?_, ?_, ?_, ?_⟩
    · simp [Builtin.lenOf, ByteArray.size]
    · intro sz _
      simp only [Builtin.firstCells, List.length_map, Sem.run_pure]
      congr 1
      rw [ByteArray.extract_mk]
      simp
    · clear hl
      induction s with
      | nil => simp [RAll]
      | cons c s ih =>
        simp only [List.map_cons, List.flatten_cons, List.cons_append, List.nil_append, RAll]
        refine ⟨R_int ?_, ih⟩
        rw [inR_u8]
        have := c.toNat_lt
        omega
    · intro r hr
      obtain ⟨c, _, rfl⟩ := List.mem_map.1 hr
      rfl
  · rename_i b sz' n cap
    split at hr
    · rename_i sz2 rows' cap' hg
      split at hr
      · rename_i he
        obtain ⟨rfl, hle⟩ := he
        simp only [Option.some.injEq, Prod.mk.injEq] at hr
        obtain ⟨rfl, rfl⟩ := hr
        simp only [R] at hx
        subst hx
        obtain ⟨⟨vs, T, h1, h2, h3, h4, h5⟩, _⟩ := hc.box _ _ (Store.mem_of_get hg)
        have hw : WCells M w rows'.flatten b 0 := boxCells_w hc (by simp [boxCells, hg])
        have h5' : ∀ r ∈ rows', r.length = sz' := fun r hr => (h5 r hr).1
        have hlen : rows'.flatten.length = rows'.length * sz' := flat_length h5'
        have htn : (rows'.take n).length = n := by rw [List.length_take]; exact Nat.min_eq_left hle
        obtain ⟨us, h6, h7⟩ := run_loadCells (P := P) (n := n * sz') hw (by rw [hlen]; exact Nat.mul_le_mul_right _ hle)
        refine ⟨us, by rw [htn]; rfl, fun s hs => ?_, by rwa [flat_take h5'], fun r hr => h5' r (List.mem_of_mem_take hr)⟩
        rw [htn]
        rcases hs with hs | rfl
        · have hn0 : n = 0 := by rw [← htn, hs]; rfl
          subst hn0
          have : us = [] := by
            have := h7.length
            simp at this
            exact List.eq_nil_of_length_eq_zero this.symm
          subst this
          simp only [Builtin.firstCells, Nat.zero_mul]
          rfl
        · exact h6
      · cases hr
    · cases hr
  · cases hr

/-! ### The store under append -/
theorem Store.ren_same : ∀ (σ : Store) (b : Nat) (y : Box), σ.ren b b y = σ.upd b y
  | [], _, _ => rfl
  | (c, x) :: σ, b, y => by
    unfold Store.ren Store.upd
    split
    · rename_i e; rw [e]
    · rw [Store.ren_same σ b y]

theorem Store.mem_ren : ∀ {σ : Store} {b b' c : Nat} {y z : Box}, σ.keys.Nodup → (c, z) ∈ σ.ren b b' y → (c = b' ∧ z = y ∧ b ∈ σ.keys) ∨ (c ≠ b ∧ (c, z) ∈ σ)
  | [], _, _, _, _, _, _, h => by simp [Store.ren] at h
  | (d, x) :: σ, b, b', c, y, z, hn, h => by
    simp only [Store.keys, List.map_cons, List.nodup_cons] at hn
    unfold Store.ren at h
    split at h
    · rename_i e
      subst e
      rcases List.mem_cons.1 h with h | h
      · cases h; exact .inl ⟨rfl, rfl, by simp [Store.keys]⟩
      · have h2 := List.mem_map_of_mem (f := Prod.fst) h
        exact .inr ⟨fun e => hn.1 (e ▸ h2), List.mem_cons_of_mem _ h⟩
    · rename_i e
      rcases List.mem_cons.1 h with h | h
      · cases h; exact .inr ⟨fun e' => e e'.symm, by simp⟩
      · rcases Store.mem_ren hn.2 h with ⟨h1, h2, h3⟩ | ⟨h1, h2⟩
        · exact .inl ⟨h1, h2, by simp only [Store.keys, List.map_cons, List.mem_cons]; exact .inr h3⟩
        · exact .inr ⟨h1, List.mem_cons_of_mem _ h2⟩

theorem Store.nodup_ren : ∀ {σ : Store} {b b' : Nat} {y : Box}, σ.keys.Nodup → b' ∉ σ.keys → (σ.ren b b' y).keys.Nodup
  | [], _, _, _, _, _ => by simp [Store.ren, Store.keys]
  | (d, x) :: σ, b, b', y, hn, hb => by
    have hn0 := hn
    simp only [Store.keys, List.map_cons, List.nodup_cons] at hn
    simp only [Store.keys, List.map_cons, List.mem_cons, not_or] at hb
    unfold Store.ren
    split
    · simp only [Store.keys, List.map_cons, List.nodup_cons]
      exact ⟨hb.2, hn.2⟩
    · simp only [Store.keys, List.map_cons, List.nodup_cons]
      refine ⟨fun h => ?_, Store.nodup_ren hn.2 hb.2⟩
      obtain ⟨⟨c, z⟩, hm, rfl⟩ := List.mem_map.1 h
      rcases Store.mem_ren hn.2 hm with ⟨h1, _, _⟩ | ⟨_, h2⟩
      · exact hb.1 h1.symm
      · exact hn.1 (List.mem_map_of_mem (f := Prod.fst) h2)

/-- A new row with spare room. -/
theorem new_tail (hc : Conc M w σ) {vs rest : List Value} {T : TypeId} {sz n cap : Nat} (hl : vs.length = n * sz) (hr : (vs ++ rest).length = cap * sz) (hn : n ≤ cap) :
    let w1 := w.drew.alloc (.cells (List.toArray (vs ++ rest)) T (0, 0))
    BoxR (M.add w.heap.size vs) w1 w.heap.size (.tail sz n cap) ∧
    (∀ b o v, M.add w.heap.size vs b o = some v → w1.cell? ⟨b, o, none⟩ = some v) ∧
    (∀ c z, (c, z) ∈ σ → BoxR (M.add w.heap.size vs) w1 c z) ∧
    (∀ σ', (∀ b, b ∈ σ'.keys → b ∈ σ.keys ∨ w.heap.size ≤ b) → Step M w σ (M.add w.heap.size vs) w1 σ') ∧
    (∀ i v, vs[i]? = some v → M.add w.heap.size vs w.heap.size i = some v) ∧ Mem.le M (M.add w.heap.size vs) := by
  intro w1
  have hle : Mem.le M (M.add w.heap.size vs) := fun b o x h => by
    unfold Mem.add
    rw [if_neg (by have := hc.memLt h; omega)]
    exact h
  have hg : ∀ b o x, M.add w.heap.size vs b o = some x → M b o = some x ∨ w.heap.size ≤ b := fun b o x h => by
    unfold Mem.add at h
    split at h
    · exact .inr (by omega)
    · exact .inl h
  have hnew : w1.heap[w.heap.size]? = some (.cells (List.toArray (vs ++ rest)) T (0, 0)) := alloc_heap_new w.drew _
  have hold : ∀ b, b < w.heap.size → w1.heap[b]? = w.heap[b]? := fun b hb => alloc_heap_old w.drew _ hb
  refine ⟨⟨⟨_, T, hnew, by simpa using hr, hn⟩, fun o ho => ?_⟩, ?_, ?_, ?_, fun i v h => by unfold Mem.add; rw [if_pos rfl]; exact h, hle⟩
  · unfold Mem.add
    rw [if_pos rfl, List.getElem?_eq_none (by omega)]
  · intro b i v h
    unfold Mem.add at h
    split at h
    · rename_i e; subst e
      simp only [World.cell?, hnew]
      have hi := (List.getElem?_eq_some_iff.1 h).1
      simp [List.getElem?_append_left hi, h]
    · simp only [World.cell?, hold b (hc.memLt h)]
      exact hc.mem b i v h
  · intro b y hy
    have hlt := (hc.box b y hy).lt
    exact (hc.box b y hy).mono hle (fun o v h => (hg b o v h).resolve_right (by omega)) (hold b hlt)
  · intro σ' hk
    exact { le := hle, os := rfl, tape := rfl, output := rfl, size := by show w.heap.size ≤ (w.drew.alloc _).heap.size; simp, block := fun b hb _ => hold b hb, keys := hk,
            grow := fun b o x h => (hg b o x h).imp id .inl }

end

end Go.Proofs.Ytgccnkihonmlbaa

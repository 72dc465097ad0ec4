/- Own layer, part 5: slices, built-ins, composite values; all quiet operations together. -/
import Derived.Test.YtgccnkihonmlbaaA4
namespace Go.Proofs.Ytgccnkihonmlbaa
open Go Go.RowKit
set_option linter.unusedSimpArgs false
set_option linter.unusedVariables false

section
variable {P : Program} {M : Mem} {w : World} {σ : Store}

theorem ob_some {x : Option D} {dflt : Nat} {n : Int} (h : ob x dflt = some n) : (x = none ∧ n = dflt) ∨ ∃ k, x = some (.int k n) := by
  unfold ob at h; split at h
  · cases h; exact .inl ⟨rfl, rfl⟩
  · cases h; exact .inr ⟨_, rfl⟩
  · cases h

def RO (M : Mem) : Option D → Option Value → Prop
  | none, none => True
  | some d, some v => R M d v
  | _, _ => False

theorem run_sliceBound {k : IntKind} {i : Int} {y : Nat} {code : BoundsCode} (h0 : 0 ≤ i) (h1 : i ≤ y) : (Instr.sliceBound (.int k i) y code).run P w = .ok i.toNat w := by
  simp only [Instr.sliceBound, asIntOf, Sem.run_bind, Sem.run_pure, Result.andThen_ok]
  rw [if_pos ⟨h0, h1⟩]
  rfl

theorem run_sliceBounds {b : Bool} {len cap : Nat} {lo hi : Option D} {lv hv : Option Value} {l h : Int} (hlo : ob lo 0 = some l) (hhi : ob hi len = some h)
    (rl : RO M lo lv) (rh : RO M hi hv) (h0 : 0 ≤ l) (h1 : l ≤ h) (h2 : h ≤ cap) :
    (Instr.sliceBounds b len cap lv hv none).run P w = .ok (l.toNat, h.toNat, cap) w := by
  rcases ob_some hhi with ⟨rfl, rfl⟩ | ⟨k, rfl⟩ <;> rcases ob_some hlo with ⟨rfl, rfl⟩ | ⟨k', rfl⟩ <;> cases lv <;> cases hv <;> simp only [RO, R] at rl rh
  · simp [Instr.sliceBounds]
  · obtain ⟨rfl, _⟩ := rl
    simp only [Instr.sliceBounds, Sem.run_bind, Sem.run_pure, Result.andThen_ok, Option.isSome_none, Bool.false_eq_true, if_false, run_sliceBound h0 h1, Int.toNat_natCast]
  · obtain ⟨rfl, _⟩ := rh
    simp only [Instr.sliceBounds, Sem.run_bind, Sem.run_pure, Result.andThen_ok, run_sliceBound (by omega : (0 : Int) ≤ h) h2]
    rfl
  · obtain ⟨rfl, _⟩ := rh
    obtain ⟨rfl, _⟩ := rl
    simp only [Instr.sliceBounds, Sem.run_bind, Sem.run_pure, Result.andThen_ok, run_sliceBound (by omega : (0 : Int) ≤ h) h2, Option.isSome_none, Bool.false_eq_true, if_false]
    rw [run_sliceBound h0 (by omega)]
    rfl

theorem run_sliceBounds3 {len cap : Nat} {lo hi : Option D} {lv hv : Option Value} {k : IntKind} {l h m : Int} (hlo : ob lo 0 = some l) (hhi : ob hi len = some h) (hne : hv ≠ none)
    (rl : RO M lo lv) (rh : RO M hi hv) (h0 : 0 ≤ l) (h1 : l ≤ h) (h2 : h ≤ m) (h3 : m ≤ cap) :
    (Instr.sliceBounds true len cap lv hv (some (.int k m))).run P w = .ok (l.toNat, h.toNat, m.toNat) w := by
  cases hv with
  | none => exact absurd rfl hne
  | some hv =>
    rcases ob_some hhi with ⟨rfl, rfl⟩ | ⟨k, rfl⟩
    · simp only [RO] at rh
    · simp only [RO, R] at rh
      obtain ⟨rfl, _⟩ := rh
      rcases ob_some hlo with ⟨rfl, rfl⟩ | ⟨k', rfl⟩ <;> cases lv <;> simp only [RO, R] at rl
      · simp only [Instr.sliceBounds, Sem.run_bind, Sem.run_pure, Result.andThen_ok, run_sliceBound (by omega : (0 : Int) ≤ m) h3]
        rw [run_sliceBound (by omega : (0 : Int) ≤ h) (by omega)]
        rfl
      · obtain ⟨rfl, _⟩ := rl
        simp only [Instr.sliceBounds, Sem.run_bind, Sem.run_pure, Result.andThen_ok, run_sliceBound (by omega : (0 : Int) ≤ m) h3]
        rw [run_sliceBound (by omega : (0 : Int) ≤ h) (by omega)]
        simp only [Result.andThen_ok]
        rw [run_sliceBound h0 (by omega)]
        rfl

theorem slice_sound {T : TypeId} {x : D} {lo hi mx : Option D} {a : Value} {lv hv mv : Option Value} (h : (qslice P T x lo hi mx).1) (hx : R M x a)
    (rl : RO M lo lv) (rh : RO M hi hv) (rm : RO M mx mv) :
    ∃ v, (Instr.sliceAt T a lv hv mv).run P w = .ok v w ∧ R M (qslice P T x lo hi mx).2 v := by
  unfold qslice at h ⊢
  split at h
  · rename_i s
    split at h
    · rename_i l hh hlo hhi
      obtain ⟨h1, h2, h3, h4⟩ := h
      simp only [R] at hx
      obtain ⟨rfl, hs⟩ := hx
      cases mv with
      | some _ => simp only [RO] at rm
      | none =>
        simp only [Instr.sliceAt, Instr.slice, Sem.run_bind, run_underlying' (isStrT_iff h1), Result.andThen_ok, Option.isSome_none, Bool.false_eq_true, if_false, Sem.run_pure]
        rw [run_sliceBounds (M := M) (l := l) (h := hh) hlo (by simpa [ByteArray.size] using hhi) rl rh h2 h3 (by simpa [ByteArray.size] using h4)]
        simp only [Result.andThen_ok, Sem.run_pure]
        refine ⟨_, rfl, ?_⟩
        rw [ByteArray.extract_mk]
        have e : (s.drop l.toNat).take (hh.toNat - l.toNat) = (s.take hh.toNat).drop l.toNat := by
          rw [List.drop_take]
        rw [e]
        exact R_str (by simp; omega)
    · exact h.elim
  · rename_i b sz n cap
    simp only [R] at hx
    subst hx
    split at h
    · rename_i s l hh hs hlo hhi
      obtain ⟨e, g, m⟩ := s
      obtain ⟨hu, hz⟩ := sle_some hs
      obtain ⟨rfl, h2, h3⟩ := h
      cases mv with
      | some _ => simp only [RO] at rm
      | none =>
        simp only [Instr.sliceAt, Instr.slice, Sem.run_bind, run_underlying' hu, Result.andThen_ok]
        rw [run_sliceBounds (M := M) (l := 0) (h := hh) hlo hhi rl rh (Int.le_refl _) h2 h3]
        simp only [Result.andThen_ok, run_sizeOf' hz, Sem.run_pure]
        refine ⟨_, rfl, ?_⟩
        simp only [R, Int.toNat_zero, Nat.zero_mul, Nat.sub_zero, Option.map_some, addr_add, Nat.add_zero, ite_self]
    · exact h.elim
  · rename_i sz rows t
    simp only [R] at hx
    obtain ⟨p, cap, rfl, h5, h6, h7, h8⟩ := hx
    split at h
    · rename_i e g s l hh hs hlo hhi
      obtain ⟨hu, hz⟩ := sle_some hs
      obtain ⟨h1, h2, h3, h4⟩ := h
      cases mv with
      | some _ => simp only [RO] at rm
      | none =>
        simp only [Instr.sliceAt, Instr.slice, Sem.run_bind, run_underlying' hu, Result.andThen_ok]
        rw [run_sliceBounds (M := M) (l := l) (h := hh) hlo hhi rl rh h2 h3 (by omega)]
        simp only [Result.andThen_ok, run_sizeOf' hz, Sem.run_pure]
        refine ⟨_, rfl, ?_⟩
        have hlen : ((rows.take hh.toNat).drop l.toNat).length = hh.toNat - l.toNat := by simp; omega
        simp only [R]
        refine ⟨_, _, by rw [hlen], by rw [hlen]; omega, by rw [hlen]; omega, ?_, ?_⟩
        · intro hne
          have hl : l.toNat < rows.length := by
            rcases Nat.lt_or_ge l.toNat rows.length with h | h
            · exact h
            · exact absurd (List.eq_nil_of_length_eq_zero (by rw [hlen]; omega)) hne
          obtain ⟨b, o, rfl, hr⟩ := h7 (by intro e; rw [e] at hl; simp at hl)
          rw [if_neg (by omega)]
          have hsz : sz = s := h1.resolve_left (by intro e; rw [e] at hl; simp at hl)
          subst hsz
          exact ⟨b, _, by simp only [Option.map_some, addr_add], (hr.take hh.toNat).drop l.toNat⟩
        · split
          · rename_i he
            obtain ⟨rfl, rfl⟩ := he
            have e2 : (if cap = (0 : Int).toNat then p else Option.map (fun x => x.add ((0 : Int).toNat * s)) p) = p := by
              split
              · rfl
              · cases p with
                | none => rfl
                | some q => obtain ⟨b, o, sp⟩ := q; simp [Addr.add]
            rw [e2]
            simpa [TokR] using h8
          · trivial
    · rename_i e g s l hh k m hs hlo hhi
      obtain ⟨hu, hz⟩ := sle_some hs
      obtain ⟨h1, h2, h3, rfl, h9, h10⟩ := h
      cases mv with
      | none => simp only [RO] at rm
      | some mv =>
        simp only [RO, R] at rm
        obtain ⟨rfl, _⟩ := rm
        have hne : hv ≠ none := by
          intro e; subst e
          cases hi with
          | none => simp at h10
          | some _ => simp only [RO] at rh
        · simp only [Instr.sliceAt, Instr.slice, Sem.run_bind, run_underlying' hu, Result.andThen_ok]
          rw [run_sliceBounds3 (M := M) (l := l) (h := m) hlo hhi hne rl rh h2 h3 (Int.le_refl _) (by omega)]
          simp only [Result.andThen_ok, run_sizeOf' hz, Sem.run_pure]
          refine ⟨_, rfl, ?_⟩
          have hlen : ((rows.take m.toNat).drop l.toNat).length = m.toNat - l.toNat := by simp; omega
          simp only [R]
          refine ⟨_, _, by rw [hlen], by rw [hlen]; omega, by rw [hlen]; omega, ?_, by simp only [TokR]; rw [hlen]⟩
          intro hne
          have hl : l.toNat < m.toNat := by
            rcases Nat.lt_or_ge l.toNat m.toNat with h | h
            · exact h
            · exact absurd (List.eq_nil_of_length_eq_zero (by rw [hlen]; omega)) hne
          obtain ⟨b, o, rfl, hr⟩ := h7 (by intro e; rw [e] at h9; simp at h9; omega)
          rw [if_neg (by omega)]
          have hsz : sz = s := h1.resolve_left (by intro e; rw [e] at h9; simp at h9; omega)
          subst hsz
          exact ⟨b, _, by simp only [Option.map_some, addr_add], (hr.take m.toNat).drop l.toNat⟩
    · exact h.elim
  · exact h.elim

theorem run_foldlM_min (k : IntKind) : ∀ (ds : List D) (vs : List Value) (a n : Int), foldI mnI k a ds = some n → inR k a → RAll M ds vs →
    (vs.foldlM Builtin.min2 (.int k a)).run P w = .ok (.int k n) w ∧ inR k n
  | [], [], a, n, h, ha, _ => by simp only [foldI] at h; cases h; exact ⟨rfl, ha⟩
  | d :: ds, v :: vs, a, n, h, ha, hr => by
    simp only [RAll] at hr
    cases d <;> simp only [foldI] at h <;> try (cases h; done)
    rename_i k' b
    split at h
    · rename_i e; subst e
      have h1 := hr.1
      simp only [R] at h1
      obtain ⟨rfl, hb⟩ := h1
      have := run_foldlM_min _ ds vs (mnI a b) n h (by unfold mnI; split <;> assumption) hr.2
      refine ⟨?_, this.2⟩
      simp only [List.foldlM_cons, Sem.run_bind, Builtin.min2, Sem.run_pure, Result.andThen_ok]
      exact this.1
    · cases h
  | [], _ :: _, _, _, _, _, hr => by simp [RAll] at hr
  | _ :: _, [], _, _, _, _, hr => by simp [RAll] at hr

theorem run_foldlM_max (k : IntKind) : ∀ (ds : List D) (vs : List Value) (a n : Int), foldI mxI k a ds = some n → inR k a → RAll M ds vs →
    (vs.foldlM Builtin.max2 (.int k a)).run P w = .ok (.int k n) w ∧ inR k n
  | [], [], a, n, h, ha, _ => by simp only [foldI] at h; cases h; exact ⟨rfl, ha⟩
  | d :: ds, v :: vs, a, n, h, ha, hr => by
    simp only [RAll] at hr
    cases d <;> simp only [foldI] at h <;> try (cases h; done)
    rename_i k' b
    split at h
    · rename_i e; subst e
      have h1 := hr.1
      simp only [R] at h1
      obtain ⟨rfl, hb⟩ := h1
      have := run_foldlM_max _ ds vs (mxI a b) n h (by unfold mxI; split <;> assumption) hr.2
      refine ⟨?_, this.2⟩
      simp only [List.foldlM_cons, Sem.run_bind, Builtin.max2, Sem.run_pure, Result.andThen_ok]
      exact this.1
    · cases h
  | [], _ :: _, _, _, _, _, hr => by simp [RAll] at hr
  | _ :: _, [], _, _, _, _, hr => by simp [RAll] at hr

theorem RAll_one {d : D} {vs : List Value} (h : RAll M [d] vs) : ∃ v, vs = [v] ∧ R M d v := by
  cases vs with
  | nil => simp [RAll] at h
  | cons v vs => cases vs with
    | nil => simp only [RAll, and_true] at h; exact ⟨v, rfl, h⟩
    | cons _ _ => simp [RAll] at h

theorem inR_len {n : Nat} (h : n ≤ lim) : inR .i64 (n : Int) := by rw [inR_i64]; unfold lim at h; omega

theorem sle_isSome {t : TypeId} (h : (sle P t).isSome = true) : ∃ e, P.underlying t = some (.slice e) := by
  obtain ⟨⟨e, g, n⟩, hs⟩ := Option.isSome_iff_exists.1 h
  exact ⟨e, (sle_some hs).1⟩

theorem builtin_sound {b : Builtin} {ts : Array TypeId} {T : TypeId} {cs : Array Bool} {xs : List D} {vs : List Value} (h : (qbuiltin P σ b ts xs).1) (hx : RAll M xs vs) :
    ∃ v, (builtin b ts T cs (List.toArray vs)).run P w = .ok (.value v) w ∧ R M (qbuiltin P σ b ts xs).2 v := by
  unfold qbuiltin at h ⊢
  split at h
  · rename_i s
    obtain ⟨t, ht, hu⟩ := h
    obtain ⟨v, rfl, hv⟩ := RAll_one hx
    simp only [R] at hv
    obtain ⟨rfl, hl⟩ := hv
    refine ⟨_, ?_, R_int (inR_len hl)⟩
    simp only [builtin, Builtin.len_, ht, List.getElem?_toArray, List.getElem?_cons_zero, Sem.run_bind, run_underlying' (isStrT_iff hu), Result.andThen_ok, Sem.run_pure]
    rfl
  · rename_i sz rows tk
    obtain ⟨t, ht, hu⟩ := h
    obtain ⟨e, hu⟩ := sle_isSome hu
    obtain ⟨v, rfl, hv⟩ := RAll_one hx
    simp only [R] at hv
    obtain ⟨p, cap, rfl, _, hl, _⟩ := hv
    refine ⟨_, ?_, R_int (inR_len hl)⟩
    simp only [builtin, Builtin.len_, ht, List.getElem?_toArray, List.getElem?_cons_zero, Sem.run_bind, run_underlying' hu, Result.andThen_ok, Sem.run_pure]
    rfl
  · rename_i b sz n cap
    obtain ⟨t, ht, hu, hl⟩ := h
    obtain ⟨e, hu⟩ := sle_isSome hu
    obtain ⟨v, rfl, hv⟩ := RAll_one hx
    simp only [R] at hv
    subst hv
    refine ⟨_, ?_, R_int (inR_len hl)⟩
    simp only [builtin, Builtin.len_, ht, List.getElem?_toArray, List.getElem?_cons_zero, Sem.run_bind, run_underlying' hu, Result.andThen_ok, Sem.run_pure]
    rfl
  · rename_i sz rows
    obtain ⟨t, ht, hu⟩ := h
    obtain ⟨e, hu⟩ := sle_isSome hu
    obtain ⟨v, rfl, hv⟩ := RAll_one hx
    simp only [R, TokR] at hv
    obtain ⟨p, cap, rfl, _, hl, _, rfl⟩ := hv
    refine ⟨_, ?_, R_int (inR_len hl)⟩
    simp only [builtin, Builtin.cap_, ht, List.getElem?_toArray, List.getElem?_cons_zero, Sem.run_bind, run_underlying' hu, Result.andThen_ok, Sem.run_pure]
    rfl
  · rename_i sz rows
    obtain ⟨t, ht, hu⟩ := h
    obtain ⟨e, hu⟩ := sle_isSome hu
    obtain ⟨v, rfl, hv⟩ := RAll_one hx
    simp only [R, TokR] at hv
    obtain ⟨p, cap, rfl, _, hl, _, rfl, rfl⟩ := hv
    refine ⟨_, ?_, R_int (inR_len (n := 0) (by unfold lim; omega))⟩
    simp only [builtin, Builtin.cap_, ht, List.getElem?_toArray, List.getElem?_cons_zero, Sem.run_bind, run_underlying' hu, Result.andThen_ok, Sem.run_pure]
    rfl
  · rename_i b sz n c
    obtain ⟨t, ht, hu, hl⟩ := h
    obtain ⟨e, hu⟩ := sle_isSome hu
    obtain ⟨v, rfl, hv⟩ := RAll_one hx
    simp only [R] at hv
    subst hv
    refine ⟨_, ?_, R_int (inR_len hl)⟩
    simp only [builtin, Builtin.cap_, ht, List.getElem?_toArray, List.getElem?_cons_zero, Sem.run_bind, run_underlying' hu, Result.andThen_ok, Sem.run_pure]
    rfl
  · rename_i k a ds
    split at h
    · rename_i n hn
      cases vs with
      | nil => simp [RAll] at hx
      | cons v vs =>
        simp only [RAll, R] at hx
        obtain ⟨⟨rfl, ha⟩, hr⟩ := hx
        obtain ⟨h1, h2⟩ := run_foldlM_min (P := P) (w := w) k ds vs a n hn ha hr
        refine ⟨_, ?_, R_int h2⟩
        simp only [builtin, Builtin.min_, Sem.run_bind, h1, Result.andThen_ok, Sem.run_pure]
    · exact h.elim
  · rename_i k a ds
    split at h
    · rename_i n hn
      cases vs with
      | nil => simp [RAll] at hx
      | cons v vs =>
        simp only [RAll, R] at hx
        obtain ⟨⟨rfl, ha⟩, hr⟩ := hx
        obtain ⟨h1, h2⟩ := run_foldlM_max (P := P) (w := w) k ds vs a n hn ha hr
        refine ⟨_, ?_, R_int h2⟩
        simp only [builtin, Builtin.max_, Sem.run_bind, h1, Result.andThen_ok, Sem.run_pure]
    · exact h.elim
  · exact h.elim

/-! ### Composite values -/
theorem R_cells {d : D} {v : Value} (h : R M d v) (hd : d.flat = true) : RAll M d.cellsOf v.cells.toList := by
  cases d <;> simp only [D.flat, D.isCell, Bool.false_eq_true] at hd <;> simp only [D.cellsOf]
  case ag cs =>
    simp only [R] at h
    obtain ⟨vs, rfl, hv⟩ := h
    simpa [Value.cells] using hv
  all_goals
    have ho := R.oneCell h (by first | rfl | exact hd)
    have e : v.cells = #[v] := by cases v <;> first | rfl | (simp [Value.oneCell'] at ho)
    rw [e]
    simp only [RAll, and_true]
    exact h

theorem foldl_set (off : Nat) : ∀ (xs : List Value) (k : Nat) (vs : List Value), off + k + xs.length ≤ vs.length →
    (xs.zipIdx k).foldl (fun (cs : Array Value) (x : Value × Nat) => cs.setIfInBounds (off + x.2) x.1) (List.toArray vs) = List.toArray (vs.take (off + k) ++ xs ++ vs.drop (off + k + xs.length))
  | [], k, vs, _ => by simp
  | x :: xs, k, vs, h => by
    simp only [List.length_cons] at h
    simp only [List.zipIdx_cons, List.foldl_cons, List.setIfInBounds_toArray]
    rw [foldl_set off xs (k + 1) (vs.set (off + k) x) (by simp; omega)]
    congr 1
    rw [show off + (k + 1) = (off + k) + 1 from by omega]
    rw [List.take_succ_eq_append_getElem (by simp; omega)]
    simp only [List.getElem_set_self, List.take_set_of_le (Nat.le_refl _), List.length_cons, List.append_assoc, List.cons_append, List.nil_append]
    rw [List.drop_set_of_lt (by omega)]
    congr 3
    congr 1
    omega

theorem fill_sound {pl : List (Nat × Nat)} {place : Nat → Option (Nat × Nat)} (hp : ∀ i x, pl[i]? = some x → place i = some x) : ∀ {ds : List (Nat × D)} {pvs : List (Nat × Value)} {cs cs' : List D} {vs : List Value},
    RAll M cs vs → pvs.map Prod.fst = ds.map Prod.fst → RAll M (ds.map Prod.snd) (pvs.map Prod.snd) → fillD pl cs ds = some cs' → ds.all (·.2.flat) = true →
    ∃ vs', Instr.fill place (List.toArray vs) pvs = some (List.toArray vs') ∧ RAll M cs' vs'
  | [], [], cs, cs', vs, h, _, _, hf, _ => by simp only [fillD] at hf; cases hf; exact ⟨vs, rfl, h⟩
  | (i, d) :: ds, (j, v) :: pvs, cs, cs', vs, h, he, hr, hf, ha => by
    simp only [List.map_cons, List.cons.injEq] at he
    obtain ⟨rfl, he⟩ := he
    simp only [List.map_cons, RAll] at hr
    simp only [List.all_cons, Bool.and_eq_true] at ha
    simp only [fillD] at hf
    split at hf
    · rename_i off n hpl
      split at hf
      · rename_i hc
        have hcells := R_cells hr.1 ha.1
        have hl1 := hcells.length
        have hl2 := h.length
        have hsz : v.cells.size = n := by rw [← hc.1, hl1]; simp
        have hput : RAll M (putCells cs off d.cellsOf) (vs.take off ++ v.cells.toList ++ vs.drop (off + v.cells.toList.length)) := by
          unfold putCells
          rw [hl1]
          exact ((h.take off).append hcells).append (h.drop _)
        obtain ⟨vs', h1, h2⟩ := fill_sound hp hput he hr.2 hf ha.2
        refine ⟨vs', ?_, h2⟩
        simp only [Instr.fill, hp _ _ hpl]
        rw [if_neg (by simp [hsz]; omega)]
        rw [← h1]
        congr 1
        have := foldl_set off v.cells.toList 0 vs (by simp [hsz]; omega)
        simp only [Nat.add_zero] at this
        rw [← this, ← Array.foldl_toList]
        simp
      · cases hf
    · cases hf
  | [], _ :: _, _, _, _, _, he, _, _, _ => by simp at he
  | _ :: _, [], _, _, _, _, he, _, _, _ => by simp at he

theorem run_mapM_list {α β : Type} {f : α → Sem β} {g : α → Option β} : ∀ {l : List α} {bs : List β}, l.mapM g = some bs → (∀ a b, a ∈ l → g a = some b → (f a).run P w = .ok b w) → (l.mapM f).run P w = .ok bs w
  | [], bs, h, _ => by simp at h; subst h; rfl
  | a :: l, bs, h, hf => by
    simp only [List.mapM_cons, Option.bind_eq_bind, Option.bind_eq_some_iff, Option.pure_def, Option.some.injEq] at h
    obtain ⟨b, hb, cs, hcs, rfl⟩ := h
    simp only [List.mapM_cons, Sem.run_bind, hf a b (by simp) hb, Result.andThen_ok, run_mapM_list hcs (fun a b ha hb => hf a b (List.mem_cons_of_mem _ ha) hb), Sem.run_pure]

theorem build_sound {T : TypeId} {ds : List (Nat × D)} {parts : List (Nat × Value)} (h : (qbuild P T ds).1) (he : parts.map Prod.fst = ds.map Prod.fst) (hr : RAll M (ds.map Prod.snd) (parts.map Prod.snd)) :
    ∃ v, (Instr.build T (List.toArray parts)).run P w = .ok v w ∧ R M (qbuild P T ds).2 v := by
  unfold qbuild at h ⊢
  split at h
  · rename_i z pl hz
    split at h
    · rename_i cs hf
      unfold zp at hz
      split at hz
      · rename_i zv fs hzv hu
        split at hz
        · rename_i pl' hpl
          · simp only [Option.some.injEq, Prod.mk.injEq] at hz
            obtain ⟨rfl, rfl⟩ := hz
            obtain ⟨vs', h1, h2⟩ := fill_sound (M := M) (place := fun i => (List.toArray pl')[i]?) (by intro i x hx; simpa using hx) (RAll_ofC M _) he hr hf h
            refine ⟨.agg (List.toArray vs'), ?_, by simp only [R]; exact ⟨vs', rfl, h2⟩⟩
            cases hi : P.info? T with
            | none => rw [hi] at hzv; cases hzv
            | some i =>
              rw [hi] at hzv
              have hzv' : i.zero = some zv := by simpa using hzv
              unfold Instr.build
              simp only [Sem.run_bind, zeroValue, run_typeInfo' hi, Result.andThen_ok, hzv', Sem.run_pure, run_underlying' hu]
              rw [Array.mapM_eq_mapM_toList]
              rw [Sem.run_map, run_mapM_list (P := P) (w := w) hpl (fun f b _ hb => by
                simp only [Option.map_eq_some_iff] at hb
                obtain ⟨⟨g, n⟩, hl, rfl⟩ := hb
                simp only [Sem.run_bind, run_sizeOf' hl, Result.andThen_ok, Sem.run_pure])]
              simp only [Result.andThen_ok]
              have e : List.toArray (Value.cells zv).toList = zv.cells := by simp
              rw [e] at h1
              rw [h1]
              rfl
        · cases hz
      · rename_i zv n e hzv hu
        split at hz
        · rename_i x hx
          · simp only [Option.some.injEq, Prod.mk.injEq] at hz
            obtain ⟨rfl, rfl⟩ := hz
            obtain ⟨g, m⟩ := x
            obtain ⟨vs', h1, h2⟩ := fill_sound (M := M) (place := fun i => some (i * m, m)) (by
              intro i y hy
              rw [List.getElem?_map] at hy
              cases hi : (List.range n)[i]? with
              | none => rw [hi] at hy; cases hy
              | some j =>
                rw [hi] at hy
                have : j = i := by
                  rw [List.getElem?_eq_some_iff] at hi
                  obtain ⟨_, hi⟩ := hi
                  simpa using hi.symm
                subst this
                simpa using hy) (RAll_ofC M _) he hr hf h
            refine ⟨.agg (List.toArray vs'), ?_, by simp only [R]; exact ⟨vs', rfl, h2⟩⟩
            cases hi : P.info? T with
            | none => rw [hi] at hzv; cases hzv
            | some i =>
              rw [hi] at hzv
              have hzv' : i.zero = some zv := by simpa using hzv
              unfold Instr.build
              simp only [Sem.run_bind, zeroValue, run_typeInfo' hi, Result.andThen_ok, hzv', Sem.run_pure, run_underlying' hu, run_sizeOf' hx]
              have e : List.toArray (Value.cells zv).toList = zv.cells := by simp
              rw [e] at h1
              rw [h1]
              rfl
        · cases hz
      · cases hz
    · exact h.elim
  · exact h.elim

theorem nil_sound {x : D} {a : Value} (h : (qnil x).1) (hx : R M x a) :
    ∃ v, (match a with
    | .pointer none | .nilIface | .nilFunc => runtimePanic .nilDeref
    | .func (.method name) first captured =>
      match (first[0]? : Option Value) with
      | some .nilIface => runtimePanic .nilDeref
      | some (.iface t w) => do
        if (← nilAhead ((← program).types.size + Made.depth) t w name) != some false then
          unsupported (.noEntry "op/nilCheck.the method's receiver behind this interface value is a nil pointer, or cannot be seen to be none, and the arguments act or may panic (ledger 612)")
        pure (.value (.func (.method name) first captured))
      | _ => pure (.value (.func (.method name) first captured))
    | x => pure (.value x) : Sem Next).run P w = .ok (.value v) w ∧ R M (qnil x).2 v := by
  unfold qnil at h ⊢
  split at h
  · simp only [R] at hx ⊢; subst hx; exact ⟨_, rfl, rfl⟩
  · have hx' := hx
    simp only [R] at hx'; obtain ⟨b, o, rfl, _⟩ := hx'; exact ⟨_, rfl, hx⟩
  · have hx' := hx
    simp only [R] at hx'; obtain ⟨b, o, rfl, _⟩ := hx'; exact ⟨_, rfl, hx⟩
  · have hx' := hx
    simp only [R] at hx'; obtain ⟨b, o, rfl, _⟩ := hx'; exact ⟨_, rfl, hx⟩
  · exact h.elim

end

end Go.Proofs.Ytgccnkihonmlbaa

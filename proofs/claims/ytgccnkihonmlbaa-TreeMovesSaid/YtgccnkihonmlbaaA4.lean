/- Own layer, part 4: the plain-data reading of quiet operations is right. -/
import Derived.Test.YtgccnkihonmlbaaA3
import Derived.Laws.BytesArg
namespace Go.Proofs.Ytgccnkihonmlbaa
open Go Go.RowKit
set_option linter.unusedSimpArgs false
set_option linter.unusedVariables false

section
variable {P : Program} {M : Mem} {w : World} {σ : Store}

theorem isStrT_iff {t : TypeId} (h : isStrT P t = true) : P.underlying t = some .string := by
  unfold isStrT at h; split at h
  · assumption
  · cases h
theorem ink_some {t : TypeId} {k : IntKind} (h : ink P t = some k) : P.underlying t = some (.int k) := by
  unfold ink at h; split at h
  · rename_i hu; cases h; exact hu
  · cases h
theorem knownT_some {t : TypeId} (h : knownT P t = true) : ∃ d, P.underlying t = some d := Option.isSome_iff_exists.1 h
theorem sle_some {t e : TypeId} {g : Bool} {n : Nat} (h : sle P t = some (e, g, n)) : P.underlying t = some (.slice e) ∧ lsz P e = some (g, n) := by
  unfold sle at h; split at h
  · rename_i e' hu
    simp only [Option.map_eq_some_iff, Prod.mk.injEq] at h
    obtain ⟨⟨g', n'⟩, h1, rfl, h2⟩ := h
    cases h2
    exact ⟨hu, h1⟩
  · cases h
theorem are_some {t : TypeId} {l : Nat} {g : Bool} {n : Nat} (h : are P t = some (l, g, n)) : ∃ e, P.underlying t = some (.array l e) ∧ lsz P e = some (g, n) := by
  unfold are at h; split at h
  · rename_i m e' hu
    simp only [Option.map_eq_some_iff, Prod.mk.injEq] at h
    obtain ⟨⟨g', n'⟩, h1, rfl, h2⟩ := h
    cases h2
    exact ⟨e', hu, h1⟩
  · cases h
theorem fld_some {t : TypeId} {i off : Nat} {g : Bool} {n : Nat} (h : fld P t i = some (off, g, n)) : ∃ fs f, P.underlying t = some (.struct fs) ∧ fs[i]? = some f ∧ f.offset = off ∧ lsz P f.type = some (g, n) := by
  unfold fld at h; split at h
  · rename_i fs hu
    split at h
    · rename_i f hf
      simp only [Option.map_eq_some_iff, Prod.mk.injEq] at h
      obtain ⟨⟨g', n'⟩, h1, rfl, h2⟩ := h
      cases h2
      exact ⟨fs, f, hu, hf, rfl, h1⟩
    · cases h
  · cases h

theorem R_bof {d : D} {y : Value} (h : d.cg = true ∧ isB d) (hr : R M d y) : R M (.bool (bof d)) y := by
  have h1 := hr.core h.1
  have h2 := h.2
  unfold isB at h2
  unfold bof
  split at h2
  · rename_i p e; simp only [e] at h1 ⊢; exact h1
  · exact h2.elim
theorem pick_sound {c a b : D} {x y z : Value} (h : (qpick c a b).1) (hc : R M c x) (ha : R M a y) (hb : R M b z) :
    ∃ v, (do pure (.value (if ← asBool x then y else z)) : Sem Next).run P w = .ok (.value v) w ∧ R M (qpick c a b).2 v := by
  unfold qpick at h ⊢
  split at h
  · rename_i t
    simp only [R] at hc
    subst hc
    simp only [asBool, Sem.run_bind, Sem.run_pure, Result.andThen_ok]
    cases t
    · exact ⟨_, rfl, R_bof (h.2 rfl) hb⟩
    · exact ⟨_, rfl, R_bof (h.1 rfl) ha⟩
  · exact h.elim

theorem uop_sound {op : UnOp} {x : D} {a : Value} (h : (quop op x).1) (hx : R M x a) :
    ∃ v, (Op.unary op a).run P w = .ok v w ∧ R M (quop op x).2 v := by
  unfold quop at h ⊢
  split at h
  · simp only [R] at hx; subst hx
    exact ⟨_, rfl, R_bool⟩
  · simp only [R] at hx; obtain ⟨rfl, _⟩ := hx
    exact ⟨_, rfl, R_int (inR_wrap _ _)⟩
  · exact h.elim

theorem rowByte_R {r : List D} {b : UInt8} {blk o : Nat} (h : rowByte r = some b) (hr : WCells M w r blk o) : r.length = 1 ∧ w.cell? ⟨blk, o, none⟩ = some (.int .u8 b.toNat) := by
  unfold rowByte at h
  split at h
  · rename_i n
    cases h
    obtain ⟨⟨x, h1, h2⟩, _⟩ := hr
    simp only [R] at h2
    obtain ⟨rfl, hn⟩ := h2
    rw [inR_u8] at hn
    refine ⟨rfl, ?_⟩
    rw [h1]
    congr 2
    simp only [UInt8.toNat_ofNat']
    omega
  · cases h

theorem rowsBytes_get : ∀ {rows : List (List D)} {bs : List UInt8}, rowsBytes rows = some bs → rows.length = bs.length ∧ ∀ i r, rows[i]? = some r → rowByte r = some (bs.getD i 0)
  | [], bs, h => by simp only [rowsBytes] at h; cases h; simp
  | r :: rs, bs, h => by
    simp only [rowsBytes] at h
    split at h
    · rename_i c cs h1 h2
      cases h
      have ih := rowsBytes_get h2
      refine ⟨by simp [ih.1], fun i r' hr => ?_⟩
      cases i with
      | zero => simp at hr; subst hr; simpa using h1
      | succ i => simpa using ih.2 i r' (by simpa using hr)
    · cases h

theorem field_sound {T : TypeId} {i : Nat} {x : D} {a : Value} (h : (qfield P T i x).1) (hx : R M x a) :
    ∃ v, (Instr.field T a i).run P w = .ok v w ∧ R M (qfield P T i x).2 v := by
  unfold qfield at h ⊢
  split at h
  · rename_i off g n cs hf
    obtain ⟨fs, f, hu, hfi, rfl, hz⟩ := fld_some hf
    obtain ⟨h1, h2⟩ := h
    simp only [R] at hx
    obtain ⟨vs, rfl, hv⟩ := hx
    simp only [Instr.field, Sem.run_bind, run_underlying' hu, Result.andThen_ok, hfi, asAgg, Sem.run_pure]
    exact run_part hz hv (by split <;> first | trivial | omega)
  · exact h.elim

theorem sizeOf_ne {f : Field} {g : Bool} {n : Nat} (hz : lsz P f.type = some (g, n)) (hn : 0 < n) (b o : Nat) :
    (fieldPlace ⟨b, o, none⟩ f).run P w = .ok ⟨b, o + f.offset, none⟩ w := by
  unfold fieldPlace
  simp only [Sem.run_bind, run_sizeOf' hz, Result.andThen_ok]
  rw [if_neg (by omega), addr_add]
  rfl

theorem faddr_sound {T : TypeId} {i : Nat} {x : D} {a : Value} (h : (qfaddr P T i x).1) (hx : R M x a) :
    ∃ v, (Instr.fieldAt T a i).run P w = .ok v w ∧ R M (qfaddr P T i x).2 v := by
  unfold qfaddr at h ⊢
  split at h
  · rename_i off g n cs hf
    obtain ⟨fs, f, hu, hfi, rfl, hz⟩ := fld_some hf
    simp only [R] at hx
    obtain ⟨b, o, rfl, hr⟩ := hx
    simp only [Instr.fieldAt, Sem.run_bind, run_underlying' hu, Result.andThen_ok, hfi, Instr.sureAddr, Sem.run_pure, sizeOf_ne hz h]
    refine ⟨_, rfl, ?_⟩
    simp only [R]
    exact ⟨b, _, rfl, hr.drop f.offset⟩
  · rename_i off g n b o hf
    obtain ⟨fs, f, hu, hfi, rfl, hz⟩ := fld_some hf
    simp only [R] at hx
    subst hx
    simp only [Instr.fieldAt, Sem.run_bind, run_underlying' hu, Result.andThen_ok, hfi, Instr.sureAddr, Sem.run_pure, sizeOf_ne hz h]
    exact ⟨_, rfl, by simp only [R]⟩
  · exact h.elim

theorem iaddr_sound {T : TypeId} {x i : D} {a j : Value} (h : (qiaddr P T x i).1) (hx : R M x a) (hi : R M i j) :
    ∃ v, (Instr.indexAt T a j).run P w = .ok v w ∧ R M (qiaddr P T x i).2 v := by
  unfold qiaddr at h ⊢
  split at h
  · rename_i sz rows tk k n
    split at h
    · rename_i e g s hs
      obtain ⟨hu, hz⟩ := sle_some hs
      obtain ⟨⟨h1, h2⟩, rfl⟩ := h
      simp only [R] at hx hi
      obtain ⟨rfl, _⟩ := hi
      obtain ⟨p, cap, rfl, h3, h4, h5, _⟩ := hx
      have hn : n.toNat < rows.length := by omega
      obtain ⟨b, o, rfl, hr⟩ := h5 (by intro e; rw [e] at hn; simp at hn)
      simp only [Instr.indexAt, asIntOf, Sem.run_bind, run_underlying' hu, Result.andThen_ok, Sem.run_pure]
      rw [if_pos ⟨h1, h2⟩]
      simp only [Sem.run_bind, run_sizeOf' hz, Result.andThen_ok, Sem.run_pure, addr_add]
      refine ⟨_, rfl, ?_⟩
      simp only [R]
      refine ⟨b, _, rfl, ?_⟩
      have := hr.get (i := n.toNat) (r := rows[n.toNat]) (by simp [hn])
      unfold rowAt
      rw [List.getD_eq_getElem?_getD, List.getElem?_eq_getElem hn]
      exact this.2
    · exact h.elim
  · rename_i b sz l cap k n
    split at h
    · rename_i e g s hs
      obtain ⟨hu, hz⟩ := sle_some hs
      obtain ⟨⟨h1, h2⟩, rfl⟩ := h
      simp only [R] at hx hi
      obtain ⟨rfl, _⟩ := hi
      subst hx
      simp only [Instr.indexAt, asIntOf, Sem.run_bind, run_underlying' hu, Result.andThen_ok, Sem.run_pure]
      rw [if_pos ⟨h1, h2⟩]
      simp only [Sem.run_bind, run_sizeOf' hz, Result.andThen_ok, Sem.run_pure, addr_add]
      exact ⟨_, rfl, by simp only [R, Nat.zero_add]⟩
    · exact h.elim
  · rename_i b o k n
    split at h
    · rename_i l g s hs
      obtain ⟨e, hu, hz⟩ := are_some hs
      simp only [R] at hx hi
      obtain ⟨rfl, _⟩ := hi
      subst hx
      simp only [Instr.indexAt, asIntOf, Sem.run_bind, run_underlying' hu, Result.andThen_ok, Sem.run_pure, Instr.sureAddr]
      rw [if_pos h]
      simp only [Sem.run_bind, run_sizeOf' hz, Result.andThen_ok, Sem.run_pure, addr_add]
      exact ⟨_, rfl, by simp only [R]⟩
    · exact h.elim
  · rename_i cs k n
    split at h
    · rename_i l g s hs
      obtain ⟨e, hu, hz⟩ := are_some hs
      simp only [R] at hx hi
      obtain ⟨rfl, _⟩ := hi
      obtain ⟨b, o, rfl, hr⟩ := hx
      simp only [Instr.indexAt, asIntOf, Sem.run_bind, run_underlying' hu, Result.andThen_ok, Sem.run_pure, Instr.sureAddr]
      rw [if_pos h]
      simp only [Sem.run_bind, run_sizeOf' hz, Result.andThen_ok, Sem.run_pure, addr_add]
      refine ⟨_, rfl, ?_⟩
      simp only [R]
      exact ⟨b, _, rfl, hr.drop _⟩
    · exact h.elim
  · exact h.elim

theorem index_sound {T : TypeId} {x i : D} {a j : Value} (h : (qindex P T x i).1) (hx : R M x a) (hi : R M i j) :
    ∃ v, (Instr.index T a j).run P w = .ok v w ∧ R M (qindex P T x i).2 v := by
  unfold qindex at h ⊢
  split at h
  · rename_i s k n
    obtain ⟨h1, h2, h3⟩ := h
    simp only [R] at hx hi
    obtain ⟨rfl, _⟩ := hi
    obtain ⟨rfl, _⟩ := hx
    have hn : n.toNat < s.length := by omega
    have hg : (ByteArray.mk s.toArray)[n.toNat]? = some s[n.toNat] := by
      rw [ByteArray.getElem?_lt' _ _ (by simpa [ByteArray.size] using hn)]
      rfl
    simp only [Instr.index, asIntOf, Sem.run_bind, run_underlying' (isStrT_iff h1), Result.andThen_ok, Sem.run_pure]
    rw [if_pos h2, hg]
    refine ⟨_, rfl, ?_⟩
    rw [List.getD_eq_getElem?_getD, List.getElem?_eq_getElem hn]
    refine R_int ?_
    rw [inR_u8]
    have := (s[n.toNat]).toNat_lt
    simp only [Option.getD_some]
    omega
  · rename_i cs k n
    split at h
    · rename_i l g s hs
      obtain ⟨e, hu, hz⟩ := are_some hs
      obtain ⟨h1, h2, h3, h4⟩ := h
      simp only [R] at hx hi
      obtain ⟨rfl, _⟩ := hi
      obtain ⟨vs, rfl, hv⟩ := hx
      simp only [Instr.index, asIntOf, Sem.run_bind, run_underlying' hu, Result.andThen_ok, Sem.run_pure]
      rw [if_pos ⟨h1, h2⟩]
      simp only [Sem.run_bind, run_sizeOf' hz, Result.andThen_ok]
      exact run_part hz hv (by split <;> first | trivial | omega)
    · exact h.elim
  · exact h.elim

theorem boxCells_w (hc : Conc M w σ) {b : Nat} {cs : List D} (h : boxCells σ b = some cs) : WCells M w cs b 0 := by
  unfold boxCells at h
  split at h
  · rename_i cs' hg
    cases h
    exact (hc.box _ _ (Store.mem_of_get hg)).wcells
  · rename_i sz rows cap hg
    cases h
    obtain ⟨⟨vs, T, h1, h2, h3, h4, h5⟩, h6⟩ := hc.box _ _ (Store.mem_of_get hg)
    have := WCells.of_heap (M := M) (w := w) (b := b) (T := T) (fz := (0, 0)) (cs := rows.flatten ++ (vs.drop (rows.length * sz)).map fun _ => D.top) (vs := vs.take (rows.length * sz) ++ vs.drop (rows.length * sz)) (pre := []) (by simpa using h1)
      (RAll.append h4 (by
        generalize vs.drop (rows.length * sz) = us
        induction us with
        | nil => simp [RAll]
        | cons u us ih => simp only [List.map_cons, RAll, R, true_and]; exact ih))
    have key : ∀ (xs ys : List D) (b o : Nat), WCells M w (xs ++ ys) b o → WCells M w xs b o := by
      intro xs
      induction xs with
      | nil => intros; trivial
      | cons x xs ih => intro ys b o h; exact ⟨h.1, ih ys b _ h.2⟩
    exact key _ _ _ _ this
  · cases h

theorem wc_bytes {b : Nat} : ∀ {rows : List (List D)} {bs : List UInt8} {o : Nat}, rowsBytes rows = some bs → WCells M w rows.flatten b o → ∀ {i : Nat} {c : UInt8}, bs[i]? = some c → w.cell? ⟨b, o + i, none⟩ = some (.int .u8 c.toNat)
  | [], bs, o, h, _, i, c, hi => by simp only [rowsBytes] at h; cases h; simp at hi
  | r :: rs, bs, o, h, hw, i, c, hi => by
    simp only [rowsBytes] at h
    split at h
    · rename_i x xs hx hxs
      cases h
      unfold rowByte at hx
      split at hx
      · rename_i n
        simp only [List.flatten_cons, List.cons_append, List.nil_append] at hw
        have hr := rowByte_R (M := M) (w := w) (blk := b) (o := o) (r := [D.int .u8 n]) (b := x) (by unfold rowByte; exact hx) ⟨hw.1, trivial⟩
        cases i with
        | zero => simp only [List.getElem?_cons_zero, Option.some.injEq] at hi; subst hi; exact hr.2
        | succ i =>
          have := wc_bytes hxs hw.2 (i := i) (c := c) (by simpa using hi)
          rwa [show o + 1 + i = o + (i + 1) from by omega] at this
      · cases hx
    · cases h

theorem conv_sound (hc : Conc M w σ) {s d : TypeId} {x : D} {a : Value} (h : (qconv P σ s d x).1) (hx : R M x a) :
    ∃ v, (convert s d a).run P w = .ok v w ∧ R M (qconv P σ s d x).2 v := by
  unfold qconv at h ⊢
  split at h
  · rename_i b sz n cap
    simp only [R] at hx
    subst hx
    split at h
    · rename_i sz' rows cap' hg
      split at h
      · rename_i e g m bs hs hb
        obtain ⟨h1, h2, rfl, rfl, rfl, rfl, hl⟩ := h
        obtain ⟨hu, hz⟩ := sle_some hs
        obtain ⟨hlen, _⟩ := rowsBytes_get hb
        have hw := boxCells_w hc (show boxCells σ b = some rows.flatten by unfold boxCells; rw [hg])
        refine ⟨.string ⟨bs.toArray⟩, ?_, R_str (by omega)⟩
        have key := run_convert_bytes_arg (P := P) w s e hu (ink_some h1) b 0 rows.length cap (bs.map fun c => (c.toNat : Int)) (by simp [hlen]) (fun i hi => by
          have := wc_bytes hb hw (i := i) (c := bs[i]'(by omega)) (by simp [show i < bs.length by omega])
          rw [this]
          simp [List.getD, List.getElem?_eq_getElem (show i < bs.length by omega)]) d (isStrT_iff h2)
        rw [key]
        simp [strOfNums, Function.comp_def]
      · exact h.elim
    · exact h.elim
  · rename_i k n
    split at h
    · rename_i k' hk
      simp only [R] at hx; obtain ⟨rfl, _⟩ := hx
      obtain ⟨e, he⟩ := knownT_some h
      refine ⟨.int k' (k'.wrap n), ?_, R_int (inR_wrap _ _)⟩
      unfold convert
      simp only [Sem.run_bind, run_underlying' he, run_underlying' (ink_some hk), Result.andThen_ok]
      cases e <;> rfl
    · exact h.elim
  · simp only [R] at hx; obtain ⟨rfl, hl⟩ := hx
    obtain ⟨e, he⟩ := knownT_some h.1
    refine ⟨_, ?_, R_str hl⟩
    unfold convert
    simp only [Sem.run_bind, run_underlying' he, run_underlying' (isStrT_iff h.2), Result.andThen_ok]
    cases e <;> rfl
  · rename_i rows tk
    split at h
    · rename_i e g n bs hs hb
      obtain ⟨h1, h2, rfl⟩ := h
      obtain ⟨hu, hz⟩ := sle_some hs
      obtain ⟨hlen, hget⟩ := rowsBytes_get hb
      simp only [R] at hx
      obtain ⟨p, cap, rfl, h3, h4, h5, _⟩ := hx
      by_cases hne : rows = []
      · subst hne
        have : bs = [] := by simpa using hlen.symm
        subst this
        cases p with
        | none => exact ⟨_, run_convert_bytes_nil w s e hu (ink_some h1) _ _ d (isStrT_iff h2), by have := R_str (M := M) (s := []) (by simp); exact this⟩
        | some a =>
          obtain ⟨b, o, sp⟩ := a
          refine ⟨.string (ByteArray.mk (List.toArray [])), ?_, R_str (by simp)⟩
          have hl : (loadCells ⟨b, o, sp⟩ 0).run P w = .ok ((([] : List Int).map (Value.int .u8)).toArray) w := by simp [loadCells, loadCellsFrom]
          rw [run_convert_bytes_string w s d e _ _ cap hu (ink_some h1) (isStrT_iff h2)]
          exact (run_bytesToString w _ _ cap [] hl).trans rfl
      · obtain ⟨b, o, rfl, hr⟩ := h5 hne
        refine ⟨.string ⟨bs.toArray⟩, ?_, R_str (by omega)⟩
        have key := run_convert_bytes_arg (P := P) w s e hu (ink_some h1) b o rows.length cap (bs.map fun c => (c.toNat : Int)) (by simp [hlen]) (fun i hi => by
          have hrow := hr.get (i := i) (r := rows[i]) (by simp [hi])
          have hb' := rowByte_R (hget i rows[i] (by simp [hi])) (hrow.2.toW hc)
          have hz1 := hrow.1
          rw [hb'.1] at hz1
          rw [← hz1, Nat.mul_one] at hb'
          rw [hb'.2]
          simp [List.getD, List.getElem?_eq_getElem (show i < bs.length by omega)]) d (isStrT_iff h2)
        rw [key]
        simp [strOfNums, Function.comp_def]
    · exact h.elim
  · exact h.elim

theorem load_sound (hc : Conc M w σ) {T : TypeId} {x : D} {a : Value} (h : (qload P σ T x).1) (hx : R M x a) :
    ∃ v, (Instr.loadAt T a).run P w = .ok v w ∧ R M (qload P σ T x).2 v := by
  unfold qload at h ⊢
  split at h
  · rename_i g n cs hz
    simp only [R] at hx
    obtain ⟨b, o, rfl, hr⟩ := hx
    simp only [Instr.loadAt, Instr.sureAddr, Sem.run_bind, Result.andThen_ok, Sem.run_pure]
    exact run_loadVar hz (hr.toW hc) (by obtain ⟨h1, h2⟩ := h; split <;> omega)
  · rename_i g n b o hz
    split at h
    · rename_i cs hb
      simp only [R] at hx
      subst hx
      simp only [Instr.loadAt, Instr.sureAddr, Sem.run_bind, Result.andThen_ok, Sem.run_pure]
      have := (boxCells_w hc hb).drop o
      rw [Nat.zero_add] at this
      exact run_loadVar hz this (by obtain ⟨h1, h2⟩ := h; split <;> omega)
    · exact h.elim
  · exact h.elim

/-! ### Maps -/
theorem mpt_some {T k e : TypeId} (h : mpt P T = some (k, e)) : P.underlying T = some (.map k e) := by
  unfold mpt at h
  split at h
  · cases h; assumption
  · cases h
theorem zval_run {T : TypeId} {z : D} (h : zval P T = some z) : ∃ v, (zeroValue T).run P w = .ok v w ∧ R M z v := by
  unfold zval at h
  cases hi : P.info? T with
  | none => rw [hi] at h; cases h
  | some i =>
    rw [hi] at h
    cases hz : i.zero with
    | none => simp [hz] at h
    | some v =>
      simp [hz] at h
      subst h
      exact ⟨v, by simp only [zeroValue, Sem.run_bind, run_typeInfo' hi, Result.andThen_ok, hz, Sem.run_pure], R_ofV M v⟩

/-- One key held against another. -/
theorem sameNow_of {kt : TypeId} {d : TypeDesc} (hd : P.underlying kt = some d) {k k' : D} {v v' : Value} {r : Bool} (h : keqD k k' = some r) (hk : keyOK P kt k = true) (hv : R M k v) (hv' : R M k' v') : Instr.sameNow d v v' = some r := by
  unfold keqD at h
  split at h
  · rename_i k1 a k2 b
    simp only [R] at hv hv'
    obtain ⟨rfl, _⟩ := hv
    obtain ⟨rfl, _⟩ := hv'
    split at h
    · rename_i e
      subst e
      cases h
      simp only [keyOK, ink, hd] at hk
      split at hk
      · rename_i j hj
        cases hj
        simp only [Instr.sameNow, if_true, Option.some.injEq]
        rfl
      · cases hk
    · cases h
  · rename_i s t
    simp only [R] at hv hv'
    obtain ⟨rfl, _⟩ := hv
    obtain ⟨rfl, _⟩ := hv'
    cases h
    simp only [keyOK, isStrT, hd] at hk
    split at hk
    · rename_i hj
      cases hj
      simp only [Instr.sameNow, Option.some.injEq]
      rw [beq_toListBytes]
      simp only [ByteArray.toList_mk, beq_bytes]
    · cases hk
  · cases h

theorem findNow_get {kt : TypeId} {d : TypeDesc} (hd : P.underlying kt = some d) {k : D} {v : Value} (hk : keyOK P kt k = true) (hv : R M k v) : ∀ {es : List (D × D)} {ms : List MapEntry} {r : Option D} (i : Nat), EntsR M es ms → mget k es = some r →
    match r with
    | none => Instr.findNow d v ms i = some none
    | some x => ∃ j y, Instr.findNow d v ms i = some (some (j, y)) ∧ R M x y
  | [], [], r, i, _, h => by simp only [mget] at h; cases h; rfl
  | e :: es, m :: ms, r, i, ⟨h1, h2⟩, h => by
    simp only [mget] at h
    split at h
    · rename_i he
      cases h
      have := sameNow_of hd he hk hv h1.1
      simp only [Instr.findNow, this]
      exact ⟨i, m.val, rfl, h1.2⟩
    · rename_i he
      have := sameNow_of hd he hk hv h1.1
      have ih := findNow_get hd hk hv (i + 1) h2 h
      simp only [Instr.findNow, this]
      exact ih
    · cases h
  | [], _ :: _, _, _, h, _ => h.elim
  | _ :: _, [], _, _, h, _ => h.elim

theorem checkKey_run {kt : TypeId} {k : D} {v : Value} (hk : keyOK P kt k = true) (hv : R M k v) (b : Bool) : (Instr.checkKey b 10000 kt v).run P w = .ok () w := by
  unfold keyOK at hk
  split at hk
  · simp only [R] at hv
    obtain ⟨rfl, _⟩ := hv
    unfold ink at hk
    split at hk
    · rename_i hu
      rw [show (10000 : Nat) = 9999 + 1 from rfl, Instr.checkKey]
      simp only [Sem.run_bind, run_underlying' hu, Result.andThen_ok, Sem.run_pure]
    · cases hk
  · simp only [R] at hv
    obtain ⟨rfl, _⟩ := hv
    rw [show (10000 : Nat) = 9999 + 1 from rfl, Instr.checkKey]
    simp only [Sem.run_bind, run_underlying' (isStrT_iff hk), Result.andThen_ok, Sem.run_pure]
  · cases hk

theorem keyOK_under {kt : TypeId} {k : D} (hk : keyOK P kt k = true) : ∃ d, P.underlying kt = some d := by
  unfold keyOK at hk
  split at hk
  · unfold ink at hk
    split at hk
    · exact ⟨_, by assumption⟩
    · cases hk
  · exact ⟨_, isStrT_iff hk⟩
  · cases hk

theorem getObj_run {b : Nat} {ms : Array MapEntry} {c : Nat} (h : w.heap[b]? = some (.map ms c)) : (getObj b).run P w = .ok (.map ms c) w := by
  simp [getObj, Sem.run, h]

theorem look_sound (hc : Conc M w σ) {T : TypeId} {x i : D} {a j : Value} {ok : Bool} (h : (qlook P σ T x i ok).1) (hx : R M x a) (hi : R M i j) :
    ∃ v, (Instr.lookup T a j ok).run P w = .ok v w ∧ R M (qlook P σ T x i ok).2 v := by
  unfold qlook at h ⊢
  split at h
  · rename_i k e es hT hes
    split at h
    · rename_i r z hg hz
      obtain ⟨d, hd⟩ := keyOK_under h
      obtain ⟨zv, z1, z2⟩ := zval_run (P := P) (w := w) (M := M) hz
      have key : ∃ ms : List MapEntry, EntsR M es ms ∧ ((a = .map none ∧ ms = []) ∨ ∃ b c, a = .map (some b) ∧ w.heap[b]? = some (.map (List.toArray ms) c)) := by
        unfold ments at hes
        split at hes
        · rename_i b
          split at hes
          · rename_i es' hb
            cases hes
            obtain ⟨⟨ms, c, m1, m2, _⟩, _⟩ := hc.box _ _ (Store.mem_of_get hb)
            simp only [R] at hx
            exact ⟨ms, m2, .inr ⟨b, c, hx, m1⟩⟩
          · cases hes
        · cases hes
          simp only [R] at hx
          exact ⟨[], trivial, .inl ⟨hx, rfl⟩⟩
        · cases hes
      obtain ⟨ms, m1, m2⟩ := key
      have hf := findNow_get hd h hi 0 m1 hg
      unfold Instr.lookup
      rcases m2 with ⟨rfl, rfl⟩ | ⟨b, c, rfl, hb⟩
      · simp only [Sem.run_bind, run_underlying' (mpt_some hT), Result.andThen_ok, Sem.run_pure, checkKey_run h hi, Instr.findKey, run_underlying' hd]
        cases r with
        | none =>
          simp only [hf, Sem.run_pure, Result.andThen_ok, Sem.run_bind, z1]
          refine ⟨_, rfl, ?_⟩
          simp only [lookD, Option.getD_none, Option.isSome_none]
          cases ok
          · simpa using z2
          · simp only [if_true, R]
            exact ⟨[zv, .bool false], by simp, by simp only [RAll, R]; exact ⟨z2, trivial, trivial⟩⟩
        | some x' =>
          obtain ⟨j', y, f1, f2⟩ := hf
          simp only [f1, Sem.run_pure, Result.andThen_ok, Sem.run_bind]
          refine ⟨_, rfl, ?_⟩
          simp only [lookD, Option.getD_some, Option.isSome_some]
          cases ok
          · simpa using f2
          · simp only [if_true, R]
            exact ⟨[y, .bool true], by simp, by simp only [RAll, R]; exact ⟨f2, trivial, trivial⟩⟩
      · simp only [Sem.run_bind, run_underlying' (mpt_some hT), Result.andThen_ok, Sem.run_pure, getObj_run hb, checkKey_run h hi, Instr.findKey, run_underlying' hd]
        cases r with
        | none =>
          simp only [hf, Sem.run_pure, Result.andThen_ok, Sem.run_bind, z1]
          refine ⟨_, rfl, ?_⟩
          simp only [lookD, Option.getD_none, Option.isSome_none]
          cases ok
          · simpa using z2
          · simp only [if_true, R]
            exact ⟨[zv, .bool false], by simp, by simp only [RAll, R]; exact ⟨z2, trivial, trivial⟩⟩
        | some x' =>
          obtain ⟨j', y, f1, f2⟩ := hf
          simp only [f1, Sem.run_pure, Result.andThen_ok, Sem.run_bind]
          refine ⟨_, rfl, ?_⟩
          simp only [lookD, Option.getD_some, Option.isSome_some]
          cases ok
          · simpa using f2
          · simp only [if_true, R]
            exact ⟨[y, .bool true], by simp, by simp only [RAll, R]; exact ⟨f2, trivial, trivial⟩⟩
    · exact h.elim
  · exact h.elim

theorem extract_sound {x : D} {i : Nat} {a : Value} (h : (qextract x i).1) (hx : R M x a) :
    ∃ v, (Instr.extract a i).run P w = .ok v w ∧ R M (qextract x i).2 v := by
  unfold qextract at h ⊢
  split at h
  · rename_i ds
    split at h
    · rename_i d hd
      simp only [R] at hx
      obtain ⟨vs, rfl, hv⟩ := hx
      obtain ⟨y, hy, hr⟩ := hv.get hd
      refine ⟨y, ?_, hr⟩
      simp only [Instr.extract, List.getElem?_toArray, hy]
      rfl
    · exact h.elim
  · exact h.elim

theorem iface_sound {T : TypeId} {x : D} {a : Value} (h : (qiface P T x).1) (hx : R M x a) :
    ∃ v, (Instr.makeInterface T a).run P w = .ok v w ∧ R M (qiface P T x).2 v := by
  unfold qiface at h ⊢
  obtain ⟨d, hd⟩ := knownT_some h.1
  refine ⟨.iface T a, ?_, by simp only [R]; exact ⟨a, rfl, hx⟩⟩
  have hi := h.2
  simp only [isIfaceT, hd] at hi
  simp only [Instr.makeInterface, Sem.run_bind, run_underlying' hd, Result.andThen_ok]
  cases d <;> first | rfl | (simp at hi)

end

end Go.Proofs.Ytgccnkihonmlbaa

/- Own layer, part 11: store, make, range over a string, calls; all operations that are not quiet. -/
import Derived.Test.YtgccnkihonmlbaaAa
namespace Go.Proofs.Ytgccnkihonmlbaa
open Go Go.RowKit
set_option linter.unusedSimpArgs false
set_option linter.unusedVariables false

section
variable {P : Program} {M : Mem} {w : World} {σ : Store} {K X : D → Store → Prop}

theorem szOf_some {T : TypeId} {n : Nat} (h : szOf P T = some n) : ∃ g, lsz P T = some (g, n) := by
  unfold szOf at h
  simp only [Option.map_eq_some_iff] at h
  obtain ⟨⟨g, m⟩, h1, rfl⟩ := h
  exact ⟨g, h1⟩

theorem rows_set {sz : Nat} : ∀ {rows : List (List D)} {i k : Nat} {ds : List D}, (∀ r ∈ rows, r.length = sz) → i < rows.length → k + ds.length ≤ sz →
    (rows.set i (putCells (rows.getD i []) k ds)).flatten = putCells rows.flatten (i * sz + k) ds
  | [], _, _, _, _, h, _ => by simp at h
  | r :: rs, 0, k, ds, hl, _, hk => by
    have hr := hl r (by simp)
    simp only [List.set_cons_zero, List.getD_cons_zero, List.flatten_cons, putCells, Nat.zero_mul, Nat.zero_add]
    rw [List.take_append_of_le_length (by omega), List.drop_append_of_le_length (by omega)]
    simp only [List.append_assoc]
  | r :: rs, i + 1, k, ds, hl, hi, hk => by
    have hr := hl r (by simp)
    simp only [List.length_cons] at hi
    have ih := rows_set (rows := rs) (i := i) (k := k) (ds := ds) (fun x hx => hl x (List.mem_cons_of_mem _ hx)) (by omega) hk
    simp only [putCells] at ih
    simp only [List.set_cons_succ, List.getD_cons_succ, List.flatten_cons, putCells, ih]
    rw [show (i + 1) * sz + k = r.length + (i * sz + k) from by rw [hr, Nat.add_mul]; omega, List.take_length_add_append, show r.length + (i * sz + k) + ds.length = r.length + (i * sz + k + ds.length) from by omega, List.drop_length_add_append]
    simp only [List.append_assoc]

theorem putCells_len {cs ds : List D} {o : Nat} (h : o + ds.length ≤ cs.length) : (putCells cs o ds).length = cs.length := by
  simp [putCells]; omega

theorem putCells_cell {cs ds : List D} {o : Nat} (h1 : cs.all D.isCell = true) (h2 : ds.all D.isCell = true) : (putCells cs o ds).all D.isCell = true := by
  rw [List.all_eq_true] at h1 h2 ⊢
  intro x hx
  simp only [putCells, List.mem_append] at hx
  rcases hx with (hx | hx) | hx
  · exact h1 x (List.mem_of_mem_take hx)
  · exact h2 x hx
  · exact h1 x (List.mem_of_mem_drop hx)

theorem store_out (hc : Conc M w σ) {T : TypeId} {a x : D} {av xv : Value} (ha : R M a av) (hx : R M x xv)
    (h : nstore P σ T a x K) {s : Sem Next} (hs : s = (do Instr.storeAt T av xv; pure .skip)) : NOut P M w σ s K X := by
  subst hs
  unfold nstore at h
  split at h
  · rename_i b o n hz
    obtain ⟨g, hz⟩ := szOf_some hz
    simp only [R] at ha
    subst ha
    split at h
    · rename_i cs hg
      obtain ⟨⟨h1, h2, h3, h4⟩, hk⟩ := h
      have hcells := R_cells hx h1
      have hlen := hcells.length
      obtain ⟨⟨vs, T', hv1, hv2, hv3⟩, hv4⟩ := hc.box _ _ (Store.mem_of_get hg)
      have hvl := hv2.length
      obtain ⟨w', r1, r2, r3⟩ := run_storeCells (P := P) xv.cells.toList w vs o 0 hv1 (by omega) (RAll_cell hcells h2)
      simp only [Nat.add_zero] at r3
      have hrun : (Instr.storeAt T (.pointer (some ⟨b, o, none⟩)) xv).run P w = .ok () w' := by
        simp only [Instr.storeAt, Instr.sureAddr, Sem.run_bind, Sem.run_pure, Result.andThen_ok, storeVar, run_sizeOf' hz]
        rw [if_neg (by simp at hlen; omega)]
        exact r1
      have hput : RAll M (putCells cs o x.cellsOf) (vs.take o ++ xv.cells.toList ++ vs.drop (o + xv.cells.toList.length)) := by
        unfold putCells
        rw [hlen]
        exact ((hv2.take o).append hcells).append (hv2.drop _)
      obtain ⟨c1, s1⟩ := hc.turn (w' := w') (b := b) (y := .cells (putCells cs o x.cellsOf)) (Store.get_mem hg) r2.size r2.os r2.tape r2.output r2.other (fun o v hm => by rw [hv4 o] at hm; cases hm)
        ⟨⟨_, T', r3, hput, putCells_cell hv3 h2⟩, hv4⟩
      exact .skip M w' _ (by simp only [Sem.run_bind, hrun, Result.andThen_ok, Sem.run_pure]) s1 c1 hk
    · rename_i sz rows cap hg
      obtain ⟨⟨h1, h2, h3, h4, h5⟩, hk⟩ := h
      have hcells := R_cells hx h1
      have hlen := hcells.length
      obtain ⟨⟨vs, T', hv1, hv2, hv3, hv5, hv6⟩, hv4⟩ := hc.box _ _ (Store.mem_of_get hg)
      have hsz : ∀ r ∈ rows, r.length = sz := fun r hr => (hv6 r hr).1
      have ho : o = o / sz * sz + o % sz := by rw [Nat.mul_comm]; exact (Nat.div_add_mod o sz).symm
      have hb1 : o + n ≤ rows.length * sz := by
        have : (o / sz + 1) * sz ≤ rows.length * sz := Nat.mul_le_mul_right _ h5
        rw [Nat.add_mul] at this
        omega
      have hb2 : rows.length * sz ≤ cap * sz := Nat.mul_le_mul_right _ hv3
      obtain ⟨w', r1, r2, r3⟩ := run_storeCells (P := P) xv.cells.toList w vs o 0 hv1 (by omega) (RAll_cell hcells h2)
      simp only [Nat.add_zero] at r3
      have hrun : (Instr.storeAt T (.pointer (some ⟨b, o, none⟩)) xv).run P w = .ok () w' := by
        simp only [Instr.storeAt, Instr.sureAddr, Sem.run_bind, Sem.run_pure, Result.andThen_ok, storeVar, run_sizeOf' hz]
        rw [if_neg (by simp at hlen; omega)]
        exact r1
      have hflat : (rows.set (o / sz) (putCells (rows.getD (o / sz) []) (o % sz) x.cellsOf)).flatten = putCells rows.flatten o x.cellsOf := by
        rw [rows_set hsz h5 (by omega), ← ho]
      have hfl := flat_length hsz
      have htk : (vs.take (rows.length * sz)).length = rows.length * sz := by rw [List.length_take]; omega
      have hput : RAll M (putCells rows.flatten o x.cellsOf) ((vs.take o ++ xv.cells.toList ++ vs.drop (o + xv.cells.toList.length)).take (rows.length * sz)) := by
        have e : (vs.take o ++ xv.cells.toList ++ vs.drop (o + xv.cells.toList.length)).take (rows.length * sz) =
            (vs.take (rows.length * sz)).take o ++ xv.cells.toList ++ (vs.take (rows.length * sz)).drop (o + xv.cells.toList.length) := by
          have hU : vs = vs.take (rows.length * sz) ++ vs.drop (rows.length * sz) := (List.take_append_drop _ _).symm
          generalize vs.take (rows.length * sz) = U at htk hU ⊢
          generalize vs.drop (rows.length * sz) = V at hU
          subst hU
          have e1 : (U ++ V).take o = U.take o := List.take_append_of_le_length (by omega)
          have e2 : (U ++ V).drop (o + xv.cells.toList.length) = U.drop (o + xv.cells.toList.length) ++ V := List.drop_append_of_le_length (by omega)
          rw [e1, e2, ← List.append_assoc]
          exact List.take_left' (by simp only [List.length_append, List.length_take, List.length_drop]; omega)
        rw [e]
        unfold putCells
        rw [hlen]
        exact ((hv5.take o).append hcells).append (hv5.drop _)
      have hrow : ∀ r ∈ rows.set (o / sz) (putCells (rows.getD (o / sz) []) (o % sz) x.cellsOf), r.length = sz ∧ r.all D.isCell = true := by
        intro r hr
        rcases List.mem_or_eq_of_mem_set hr with hr | rfl
        · exact hv6 r hr
        · have hm := hv6 (rows.getD (o / sz) []) (by rw [List.getD_eq_getElem?_getD, List.getElem?_eq_getElem h5]; exact List.getElem_mem h5)
          exact ⟨by rw [putCells_len (by omega)]; exact hm.1, putCells_cell hm.2 h2⟩
      obtain ⟨c1, s1⟩ := hc.turn (w' := w') (b := b) (y := .arr sz (rows.set (o / sz) (putCells (rows.getD (o / sz) []) (o % sz) x.cellsOf)) cap) (Store.get_mem hg) r2.size r2.os r2.tape r2.output r2.other (fun o v hm => by rw [hv4 o] at hm; cases hm)
        ⟨⟨_, T', r3, by simp only [List.length_append, List.length_take, List.length_drop]; omega, by rw [List.length_set]; exact hv3, by rw [List.length_set, hflat]; exact hput, hrow⟩, hv4⟩
      exact .skip M w' _ (by simp only [Sem.run_bind, hrun, Result.andThen_ok, Sem.run_pure]) s1 c1 hk
    · exact h.elim
  · exact h.elim

theorem decode_le (s : ByteArray) (i : Nat) : (Utf8.decode s i).1 ≤ 2097151 := by
  unfold Utf8.decode
  simp only [Utf8.runeError]
  repeat' split
  all_goals first | omega | (simp only []; omega)

theorem range_out (hc : Conc M w σ) {T : TypeId} {s : List UInt8} {xv : Value} (hx : R M (.str s) xv) (hT : isStrT P T = true) (h : ∀ b, b ∉ σ.keys → K (.ptr b 0) ((b, .siter s 0) :: σ)) :
    NOut P M w σ (do pure (Next.value (← Instr.range T xv))) K X := by
  simp only [R] at hx
  obtain ⟨rfl, _⟩ := hx
  have hrun : (Instr.range T (.string ⟨s.toArray⟩)).run P w = .ok (.pointer (some ⟨w.heap.size, 0, none⟩)) (w.alloc (.stringIter ⟨s.toArray⟩ 0)) := by
    unfold Instr.range
    simp only [Sem.run_bind, run_underlying' (isStrT_iff hT), Result.andThen_ok, Sem.run_pure, run_newObj]
    rfl
  obtain ⟨h1, h2, h3⟩ := hc.newBox (o := .stringIter ⟨s.toArray⟩ 0) (x := .siter s 0) ⟨alloc_heap_new w _, hc.mem_none⟩
  exact .value _ _ _ _ _ (lift_value hrun) h2 h1 (by simp only [R]) (h _ h3)

theorem next_out (hc : Conc M w σ) {T : TypeId} {b pos : Nat} {s : List UInt8} (hg : σ.get b = some (.siter s pos)) (hl : s.length ≤ lim)
    (h1 : pos < s.length → K (.tup [.bool true, .int .i64 pos, .int .i32 (Utf8.decode ⟨s.toArray⟩ pos).1]) (σ.upd b (.siter s (pos + (Utf8.decode ⟨s.toArray⟩ pos).2))))
    (h2 : s.length ≤ pos → K (.tup [.bool false]) σ) : NOut P M w σ (do pure (Next.value (← Instr.next (.pointer (some ⟨b, 0, none⟩)) true T))) K X := by
  obtain ⟨hh, hm⟩ := hc.box _ _ (Store.mem_of_get hg)
  have hsz : (ByteArray.mk s.toArray).size = s.length := by simp [ByteArray.size]
  have hget : (getObj b).run P w = .ok (.stringIter ⟨s.toArray⟩ pos) w := by simp only [getObj, Sem.run, hh]
  by_cases hp : pos < s.length
  · have hrun : (Instr.next (.pointer (some ⟨b, 0, none⟩)) true T).run P w = .ok (.tuple #[.bool true, .int .i64 pos, .int .i32 (Utf8.decode ⟨s.toArray⟩ pos).1])
        { w with heap := w.heap.setIfInBounds b (.stringIter ⟨s.toArray⟩ (pos + (Utf8.decode ⟨s.toArray⟩ pos).2)) } := by
      unfold Instr.next
      simp only [Sem.run_bind, hget, Result.andThen_ok, hsz, if_pos hp, setObj, Sem.run, hh, Sem.run_pure, goInt]
    have hlt : b < w.heap.size := (Array.getElem?_eq_some_iff.1 hh).1
    obtain ⟨c1, s1⟩ := hc.turn (w' := { w with heap := w.heap.setIfInBounds b (.stringIter ⟨s.toArray⟩ (pos + (Utf8.decode ⟨s.toArray⟩ pos).2)) }) (b := b) (y := .siter s (pos + (Utf8.decode ⟨s.toArray⟩ pos).2))
      (Store.get_mem hg) (by simp) rfl rfl rfl (fun k hk => by simp only [Array.getElem?_setIfInBounds]; rw [if_neg (fun e => hk e.symm)]) (fun o v hv => by rw [hm o] at hv; cases hv)
      ⟨by simp [hlt], hm⟩
    refine NOut.value _ _ _ _ _ (lift_value hrun) s1 c1 ?_ (h1 hp)
    simp only [R]
    refine ⟨_, rfl, ?_⟩
    have hd := decode_le ⟨s.toArray⟩ pos
    simp only [RAll, R, inR_i64, inR_i32, and_true, true_and]
    unfold lim at hl
    omega
  · have hrun : (Instr.next (.pointer (some ⟨b, 0, none⟩)) true T).run P w = .ok (.tuple #[.bool false]) w := by
      unfold Instr.next
      simp only [Sem.run_bind, hget, Result.andThen_ok, hsz, if_neg hp, Sem.run_pure]
    refine NOut.value _ _ _ _ _ (lift_value hrun) (Step.refl _ _ _) hc ?_ (h2 (by omega))
    simp only [R]
    exact ⟨_, rfl, by simp only [RAll, R, and_self]⟩

theorem eby_some {T : TypeId} {n : Nat} {e : TypeId} (h : eby P T = some n) (hu : P.underlying T = some (.slice e)) : ∃ i, P.info? e = some i ∧ i.bytes = n := by
  unfold eby at h
  rw [hu] at h
  simpa using h

theorem zrep_flat (z : List D) : ∀ n, zrep z n = (List.replicate n z).flatten
  | 0 => rfl
  | n + 1 => by simp [zrep, List.replicate_succ, zrep_flat z n]

theorem makeSlice_run {T e : TypeId} {g : Bool} {sz by_ : Nat} {z : List D} {n m : Int} (hT : sle P T = some (e, g, sz)) (hB : eby P T = some by_) (hz : zc P e = some z) (h0 : 0 ≤ n) (h1 : n ≤ m) (h2 : m * by_ ≤ capB) (hzl : z.length = sz) (hsz : 0 < sz) (hby : 0 < by_) :
    ∃ us : List Value, us.length = m.toNat * sz ∧ RAll M (zrep z m.toNat) us ∧
      (Instr.makeSlice T (.int .i64 n) (.int .i64 m)).run P w = .ok (.slice (some ⟨w.heap.size, 0, none⟩) n.toNat m.toNat) (w.alloc (.cells (List.toArray us) e (0, 0))) := by
  obtain ⟨hu, hl⟩ := sle_some hT
  obtain ⟨i, hi, hib⟩ := eby_some hB hu
  obtain ⟨zv, hz1, hz2, hz3⟩ := run_zero (P := P) (M := M) (w := w) hz
  have hzl2 := hz2.length
  obtain ⟨us, hu1, hu2, hu3⟩ := RAll_zrep hz2 m.toNat
  have hmb : m ≤ capB := by
    have : m * 1 ≤ m * by_ := Int.mul_le_mul_of_nonneg_left (by omega) (by omega)
    omega
  have wr : ∀ x : Int, 0 ≤ x → x ≤ capB → IntKind.i64.wrap x = x := fun x hx hx2 => by
    unfold capB at hx2
    simp only [IntKind.wrap, IntKind.signed, IntKind.bits]
    simp
    rw [Int.emod_eq_of_lt (by omega) (by omega), if_neg (by omega)]
  have hwn := wr n h0 (by omega)
  have hwm := wr m (by omega) hmb
  refine ⟨us, by rw [hu1, ← hzl2, hzl], hu2, ?_⟩
  have hzero : (Array.range (m.toNat * sz)).map (fun x => (if m.toNat * sz = 0 then (#[] : Array Value) else zv.cells)[x % (if m.toNat * sz = 0 then (#[] : Array Value) else zv.cells).size]!) = List.toArray us := by
    apply Array.ext_getElem?
    intro i
    simp only [Array.getElem?_map, List.getElem?_toArray]
    rcases Nat.lt_or_ge i (m.toNat * sz) with hi | hi
    · rw [if_neg (by omega)]
      have : (Array.range (m.toNat * sz))[i]? = some i := by simp [hi]
      rw [this]
      have h3 := hu3 i (by rw [← hzl2, hzl]; exact hi)
      rw [h3]
      simp [getElem!_def]
    · have h4 : us[i]? = none := by rw [List.getElem?_eq_none]; rw [hu1, ← hzl2, hzl]; exact hi
      rw [h4]
      simp [hi]
  have hno : ∀ x : Int, 0 ≤ x → x * by_ ≤ capB → ((decide (x < 0) || decide ((i.bytes : Int) * x > 2 ^ 48)) = false) := fun x hx hx2 => by
    rw [hib, Int.mul_comm]
    unfold capB at hx2
    simp only [Bool.or_eq_false_iff, decide_eq_false_iff_not]
    omega
  unfold Instr.makeSlice
  simp only [Sem.run_bind, run_underlying' hu, Result.andThen_ok, asInt, asIntOf, Sem.run_pure, run_typeInfo' hi, hwn, hwm, hno m (by omega) h2, Bool.false_or]
  have e1 : decide (n < 0) = false := by simp; omega
  have e2 : decide (n > m) = false := by simp; omega
  simp only [e1, e2, Bool.or_self, Bool.false_eq_true, if_false, Sem.run_bind, run_askRoom, Result.andThen_ok, run_sizeOf' hl]
  by_cases hz0 : m.toNat * sz = 0
  · simp only [if_pos hz0] at hzero ⊢
    simp only [Sem.run_bind, Sem.run_pure, Result.andThen_ok]
    rw [hzero]
    rfl
  · simp only [if_neg hz0] at hzero ⊢
    simp only [Sem.run_bind, Sem.run_pure, Result.andThen_ok, hz1]
    rw [hzero]
    rfl

/-! ### Maps -/
theorem keyStays_run {k : D} {e : D} {old new : Value} {r : Bool} (h : keqD k e = some true) (hn : R M k new) (ho : R M e old) : (Instr.keyThatStays old new).run P w = .ok new w := by
  unfold keqD at h
  have hs : Instr.sameBits 10000 old new = true := by
    split at h
    · rename_i k1 a k2 b
      simp only [R] at hn ho
      obtain ⟨rfl, _⟩ := hn
      obtain ⟨rfl, _⟩ := ho
      split at h
      · rename_i e'
        subst e'
        simp only [Option.some.injEq, decide_eq_true_eq] at h
        subst h
        simp [Instr.sameBits]
      · cases h
    · rename_i s t
      simp only [R] at hn ho
      obtain ⟨rfl, _⟩ := hn
      obtain ⟨rfl, _⟩ := ho
      simp only [Option.some.injEq, decide_eq_true_eq] at h
      subst h
      simp only [Instr.sameBits]
      rw [beq_toListBytes]
      simp
    · cases h
  unfold Instr.keyThatStays
  rw [if_pos hs]
  rfl

/-- Where a key is put. -/
theorem put_split {kt : TypeId} {d : TypeDesc} (hd : P.underlying kt = some d) {k x : D} {v : Value} (hk : keyOK P kt k = true) (hv : R M k v) : ∀ {es : List (D × D)} {ms : List MapEntry} {es' : List (D × D)} (i : Nat), EntsR M es ms → mput k x es = some es' →
    (Instr.findNow d v ms i = some none ∧ es' = es ++ [(k, x)]) ∨
    ∃ pre m post y, ms = pre ++ m :: post ∧ Instr.findNow d v ms i = some (some (i + pre.length, y)) ∧ (Instr.keyThatStays m.key v).run P w = .ok v w ∧
      ∀ xv, R M x xv → EntsR M es' (pre ++ { m with key := v, val := xv } :: post)
  | [], [], es', i, _, h => by simp only [mput] at h; cases h; exact .inl ⟨rfl, rfl⟩
  | e :: es, m :: ms, es', i, ⟨h1, h2⟩, h => by
    simp only [mput] at h
    split at h
    · rename_i he
      cases h
      have := sameNow_of hd he hk hv h1.1
      refine .inr ⟨[], m, ms, m.val, rfl, by simp only [Instr.findNow, this]; rfl, keyStays_run (r := true) he hv h1.1, fun xv hx => ⟨⟨hv, hx⟩, h2⟩⟩
    · rename_i he
      have := sameNow_of hd he hk hv h1.1
      cases hp : mput k x es with
      | none => rw [hp] at h; cases h
      | some l =>
        rw [hp] at h
        simp only [Option.map_some, Option.some.injEq] at h
        subst h
        rcases put_split hd hk hv (i + 1) h2 hp with ⟨f1, rfl⟩ | ⟨pre, m', post, y, rfl, f1, f2, f3⟩
        · exact .inl ⟨by simp only [Instr.findNow, this]; exact f1, rfl⟩
        · refine .inr ⟨m :: pre, m', post, y, rfl, by simp only [Instr.findNow, this, f1, List.length_cons]; congr 3; omega, f2, fun xv hx => ⟨h1, f3 xv hx⟩⟩
    · cases h
  | [], _ :: _, _, _, h, _ => h.elim
  | _ :: _, [], _, _, h, _ => h.elim

theorem EntsR.snoc {k x : D} {v xv : Value} {born : Nat} (hk : R M k v) (hx : R M x xv) : ∀ {es : List (D × D)} {ms : List MapEntry}, EntsR M es ms → EntsR M (es ++ [(k, x)]) (ms ++ [{ key := v, val := xv, born }])
  | [], [], _ => ⟨⟨hk, hx⟩, trivial⟩
  | _ :: _, _ :: _, ⟨h1, h2⟩ => ⟨h1, EntsR.snoc hk hx h2⟩
  | [], _ :: _, h => h.elim
  | _ :: _, [], h => h.elim

theorem setObj_wr {b : Nat} {o : Obj} {es : Array MapEntry} {c : Nat} (h : w.heap[b]? = some (.map es c)) : ∃ w', (setObj b o).run P w = .ok () w' ∧ Wr w w' b ∧ w'.heap[b]? = some o := by
  have hlt : b < w.heap.size := (Array.getElem?_eq_some_iff.1 h).1
  refine ⟨{ w with heap := w.heap.setIfInBounds b o }, by simp only [setObj, Sem.run, h], ⟨by simp, rfl, rfl, rfl, fun k hk => ?_⟩, by simp [hlt]⟩
  simp only [Array.getElem?_setIfInBounds]
  rw [if_neg (fun e => hk e.symm)]

theorem mput_out (hc : Conc M w σ) {T : TypeId} {m k x : D} {mv kv xv : Value} (hm : R M m mv) (hk : R M k kv) (hx : R M x xv)
    (h : nput P σ T m k x K) {s : Sem Next} (hs : s = (do Instr.mapUpdate T mv kv xv; pure .skip)) : NOut P M w σ s K X := by
  subst hs
  unfold nput at h
  split at h
  · rename_i b kt e hT
    split at h
    · rename_i es hg
      split at h
      · rename_i es' hp
        obtain ⟨hko, h⟩ := h
        obtain ⟨d, hd⟩ := keyOK_under hko
        simp only [R] at hm
        subst hm
        obtain ⟨⟨ms, c, m1, m2, m3, m4⟩, m5⟩ := hc.box _ _ (Store.mem_of_get hg)
        have hbm := Store.get_mem hg
        rcases put_split (w := w) hd hko hk (x := x) 0 m2 hp with ⟨f1, rfl⟩ | ⟨pre, m', post, y, rfl, f1, f2, f3⟩
        · obtain ⟨w', s1, s2, s3⟩ := setObj_wr (P := P) (o := .map ((List.toArray ms).push { key := kv, val := xv, born := c }) (c + 1)) m1
          obtain ⟨c1, st⟩ := hc.turn (w' := w') (b := b) (y := .map (es ++ [(k, x)])) hbm s2.size s2.os s2.tape s2.output s2.other (fun o v hov => by rw [m5 o] at hov; cases hov)
            ⟨⟨ms ++ [{ key := kv, val := xv, born := c }], c + 1, by rw [s3]; simp, EntsR.snoc hk hx m2, by
              rw [List.map_append, List.nodup_append]
              refine ⟨m3, by simp, fun a ha a' ha' => ?_⟩
              obtain ⟨m, hm, rfl⟩ := List.mem_map.1 ha
              simp at ha'
              subst ha'
              exact Nat.ne_of_lt (m4 m hm), fun m hm => by
              rcases List.mem_append.1 hm with hm | hm
              · have := m4 m hm; omega
              · simp at hm; subst hm; exact Nat.lt_succ_self c⟩, m5⟩
          refine NOut.skip M w' _ ?_ st c1 h
          simp only [Instr.mapUpdate, Sem.run_bind, run_underlying' (mpt_some hT), Result.andThen_ok, getObj_run m1, checkKey_run hko hk, Instr.findKey, run_underlying' hd, f1, Sem.run_pure, s1]
        · have hget : (List.toArray (pre ++ m' :: post))[0 + pre.length]? = some m' := by simp
          obtain ⟨w', s1, s2, s3⟩ := setObj_wr (P := P) (o := .map ((List.toArray (pre ++ m' :: post)).modify (0 + pre.length) fun e => { e with key := kv, val := xv }) c) m1
          have hmod : ((List.toArray (pre ++ m' :: post)).modify (0 + pre.length) fun e => { e with key := kv, val := xv }) = List.toArray (pre ++ { m' with key := kv, val := xv } :: post) := by
            rw [Nat.zero_add, ← Array.toList_inj]
            simp only [Array.toList_modify]
            have : ∀ (l : List MapEntry), (l ++ m' :: post).modify l.length (fun e => { e with key := kv, val := xv }) = l ++ { m' with key := kv, val := xv } :: post := fun l => by
              induction l with
              | nil => rfl
              | cons a l ih => simp only [List.cons_append, List.length_cons, List.modify_succ_cons, ih]
            exact this pre
          obtain ⟨c1, st⟩ := hc.turn (w' := w') (b := b) (y := .map es') hbm s2.size s2.os s2.tape s2.output s2.other (fun o v hov => by rw [m5 o] at hov; cases hov)
            ⟨⟨pre ++ { m' with key := kv, val := xv } :: post, c, by rw [s3, hmod], f3 xv hx, by simpa using m3, fun m hm => by
              rcases List.mem_append.1 hm with hm | hm
              · exact m4 m (List.mem_append_left _ hm)
              · rcases List.mem_cons.1 hm with rfl | hm
                · exact m4 m' (by simp)
                · exact m4 m (by simp [hm])⟩, m5⟩
          refine NOut.skip M w' _ ?_ st c1 h
          simp only [Instr.mapUpdate, Sem.run_bind, run_underlying' (mpt_some hT), Result.andThen_ok, getObj_run m1, checkKey_run hko hk, Instr.findKey, run_underlying' hd, f1, Sem.run_pure, hget, Option.map_some, Option.getD_some, f2, s1]
      · exact h.elim
    · exact h.elim
  · exact h.elim

theorem makeMap_out (hc : Conc M w σ) {T : TypeId} (h : ∀ b, b ∉ σ.keys → K (.mp b) ((b, .map []) :: σ)) : NOut P M w σ (do pure (Next.value (← Instr.makeMap T none))) K X := by
  obtain ⟨b1, b2, b3⟩ := hc.newBox (o := .map #[] 0) (x := .map []) ⟨⟨[], 0, alloc_heap_new _ _, trivial, by simp, by simp⟩, hc.mem_none⟩
  exact NOut.value _ _ _ (.mp w.heap.size) _ (by rfl) b2 b1 (by simp only [R]) (h _ b3)

/-! ### Zeros appended to nothing -/
theorem appZ_out (hc : Conc M w σ) {ts : Array TypeId} {ty : TypeId} {s x : D} {sv xv : Value} (hs : R M s sv) (hx : R M x xv) (h : nappZ P σ ts s x K) {cs : Array Bool} :
    NOut P M w σ (builtin .append ts ty cs #[sv, xv]) K X := by
  unfold nappZ at h
  split at h
  · rename_i e g sz by_ k tk n hT hB hI
    split at h
    · rename_i z hz
      obtain ⟨⟨hzl, hsz, hb0, hn0, hfit⟩, h⟩ := h
      obtain ⟨T, ht0, hT⟩ : ∃ T, ts[0]? = some T ∧ sle P T = some (e, g, sz) := by
        cases h0 : ts[0]? with
        | none => rw [h0] at hT; cases hT
        | some T => rw [h0] at hT; exact ⟨T, rfl, hT⟩
      obtain ⟨t1, ht1, hI⟩ : ∃ t1, ts[1]? = some t1 ∧ ink P t1 = some k := by
        cases h0 : ts[1]? with
        | none => rw [h0] at hI; cases hI
        | some T => rw [h0] at hI; exact ⟨T, rfl, hI⟩
      have hB : eby P T = some by_ := by rw [ht0] at hB; exact hB
      obtain ⟨hu, hl⟩ := sle_some hT
      have hinfo : ∃ i, P.info? e = some i ∧ i.bytes = by_ := by
        unfold eby at hB
        rw [hu] at hB
        simpa using hB
      obtain ⟨i, hi, hib⟩ := hinfo
      obtain ⟨zv, hz1, hz2, hz3⟩ := run_zero (P := P) (M := M) (w := w.drew) hz
      have hzl2 : zv.cells.size = sz := by have := hz2.length; rw [hzl] at this; simpa using this.symm
      simp only [R, TokR] at hs hx
      obtain ⟨p, cap, rfl, _, _, _, rfl, rfl⟩ := hs
      obtain ⟨rfl, hr⟩ := hx
      have hnb : (n.toNat : Int) = n := Int.toNat_of_nonneg (by omega)
      have hfit' : n.toNat * by_ ≤ capB := by
        have : ((n.toNat * by_ : Nat) : Int) ≤ (capB : Int) := by push_cast; rw [hnb]; exact hfit
        exact_mod_cast this
      have hnc : n.toNat ≤ capB := Nat.le_trans (Nat.le_mul_of_pos_right _ hb0) hfit'
      have hn1 : n.toNat ≠ 0 := by omega
      have hw : IntKind.wrap .i64 n = n := by
        rw [inR_i64] at hr
        simp [IntKind.wrap, IntKind.signed, IntKind.bits]
        omega
      have hneed : ¬ ((0 + n.toNat : Nat) : Int) > IntKind.i64.max := by
        unfold capB at hnc
        show ¬ _ > (9223372036854775807 : Int)
        omega
      have hnext : ¬ Builtin.nextslicecap (0 + n.toNat) 0 * by_ > 2 ^ 48 := by
        have := growslice_fits (need := 0 + n.toNat) (old := 0) (bytes := by_) (by omega) (by rw [Nat.zero_add]; exact hfit')
        omega
      have hmk : ¬ n * (by_ : Int) > 2 ^ 48 := by unfold capB at hfit; omega
      obtain ⟨cap', hcap', hle⟩ : ∃ c, (Question.appendCap (0 + n.toNat) 0 e).cut (w.tape w.drawn (.appendCap (0 + n.toNat) 0 e)) = c ∧ 0 + n.toNat ≤ c := ⟨_, rfl, by simp only [Question.cut]; omega⟩
      have hrun : (Builtin.append_ ts ty #[.slice none 0 0, .int .i64 n]).run P w = .ok (.slice (some ⟨w.heap.size, 0, none⟩) (0 + n.toNat) cap')
          (w.drew.alloc (.cells (List.toArray ((Builtin.zeroCells zv.cells n.toNat).toList ++ (Builtin.zeroCells zv.cells (cap' - (0 + n.toNat))).toList)) e (0, 0))) := by
        unfold Builtin.append_
        subst hib
        have hk1 : P.underlying t1 = some (.int k) := ink_some hI
        have hbn : i.bytes ≠ 0 := by omega
        have hgt' : ¬ 0 + n.toNat ≤ 0 := by omega
        have hns : n.toNat * sz ≠ 0 := Nat.mul_ne_zero hn1 (by omega)
        simp only [ht0, List.getElem?_toArray, List.getElem?_cons_zero, List.getElem?_cons_succ, ht1, Sem.run_bind, run_underlying' hu, Result.andThen_ok, run_sizeOf' hl, run_underlying' hk1, Sem.run_pure, if_true, asInt, asIntOf, hw]
        rw [if_neg (show ¬ n < 0 by omega)]
        simp only [Sem.run_bind, run_typeInfo' hi, Result.andThen_ok]
        rw [if_neg hmk]
        simp only [Sem.run_bind, Sem.run_pure, Result.andThen_ok]
        rw [if_neg hgt']
        simp only [Sem.run_bind, run_typeInfo' hi, Result.andThen_ok, true_or, and_true]
        rw [if_neg hneed]
        simp only [Sem.run_bind, run_typeInfo' hi, Result.andThen_ok]
        rw [if_neg hnext]
        simp only [Sem.run_bind, run_choose, Question.forced, Bool.false_eq_true, if_false, Result.andThen_ok]
        rw [hcap']
        simp only [run_askRoom, World.drew_eq, Result.andThen_ok, run_typeInfo' hi, Bool.not_true, Bool.false_eq_true, if_false, hns, Sem.run_pure, Builtin.firstCells, Nat.zero_mul]
        simp only [Sem.run_bind, hz1, Result.andThen_ok, Sem.run_pure, newRow, run_newObj]
        have e1 : (#[] : Array Value) ++ Builtin.zeroCells zv.cells n.toNat ++ Builtin.zeroCells zv.cells (cap' - (0 + n.toNat)) = List.toArray ((Builtin.zeroCells zv.cells n.toNat).toList ++ (Builtin.zeroCells zv.cells (cap' - (0 + n.toNat))).toList) := by apply Array.ext'; simp
        rw [e1]
        rfl
      obtain ⟨us, hu1, hu2, hu3⟩ := RAll_zrep hz2 n.toNat
      have hus : (Builtin.zeroCells zv.cells n.toNat).toList = us := by
        apply List.ext_getElem?
        intro j
        simp only [Builtin.zeroCells, Array.getElem?_toList, Array.getElem?_map]
        rcases Nat.lt_or_ge j (n.toNat * zv.cells.size) with hj | hj
        · have h3 := hu3 j (by simpa using hj)
          have : (Array.range (n.toNat * zv.cells.size))[j]? = some j := by simp [hj]
          rw [this, h3]
          simp [getElem!_def]
        · have h4 : us[j]? = none := List.getElem?_eq_none (by rw [hu1]; simpa using hj)
          rw [h4]
          simp [hj]
      have hul : us.length = n.toNat * sz := by rw [hu1]; simp [hzl2]
      have hzc : (Builtin.zeroCells zv.cells (cap' - (0 + n.toNat))).toList.length = (cap' - n.toNat) * sz := by simp [Builtin.zeroCells, hzl2]
      rw [hus] at hrun
      obtain ⟨b1, b2, b3⟩ := hc.drew.newBox (o := .cells (List.toArray (us ++ (Builtin.zeroCells zv.cells (cap' - (0 + n.toNat))).toList)) e (0, 0)) (x := .arr sz (List.replicate n.toNat z) cap')
        ⟨⟨_, e, alloc_heap_new _ _, by rw [List.length_append, hul, hzc, ← Nat.add_mul]; congr 1; omega, by simp; omega, by
          rw [List.length_replicate, ← hul, List.take_left, ← zrep_flat]
          exact hu2, fun r hr => by
          obtain ⟨_, rfl⟩ := List.mem_replicate.1 hr
          exact ⟨hzl, hz3⟩⟩, hc.drew.mem_none⟩
      refine NOut.value _ _ _ (.arr w.heap.size sz n.toNat cap') _ (lift_value hrun) ((Step.drew M w σ).trans b2) b1 ?_ (h _ cap' b3 (by omega))
      simp only [R, Nat.zero_add]
    · exact h.elim
  · exact h.elim

end

end Go.Proofs.Ytgccnkihonmlbaa

/- Own layer, part 8: operations that make or change memory, or call; what they do to plain data and the store. -/
import Derived.Test.YtgccnkihonmlbaaA7
import Derived.Laws.Append
import Derived.Laws.RangeAny
namespace Go.Proofs.Ytgccnkihonmlbaa
open Go Go.RowKit
set_option linter.unusedSimpArgs false
set_option linter.unusedVariables false

/-- The zero cells of a type. -/
def zc (P : Program) (T : TypeId) : Option (List D) :=
  match (P.info? T).bind (·.zero) with
  | some z => if (z.cells.toList.map D.ofC).all D.isCell then some (z.cells.toList.map D.ofC) else none
  | none => none

/-- The bytes of a slice's element. -/
def eby (P : Program) (T : TypeId) : Option Nat :=
  match P.underlying T with
  | some (.slice e) => (P.info? e).map (·.bytes)
  | _ => none

def szOf (P : Program) (T : TypeId) : Option Nat := (lsz P T).map (·.2)

def chunk (sz : Nat) : Nat → List D → List (List D)
  | 0, _ => []
  | n + 1, cs => cs.take sz :: chunk sz n (cs.drop sz)

def zrep (z : List D) : Nat → List D
  | 0 => []
  | n + 1 => z ++ zrep z n

def pls (sz len : Nat) : List (Nat × Nat) := (List.range len).map fun i => (i * sz, sz)

def Store.ren : Store → Nat → Nat → Box → Store
  | [], _, _, _ => []
  | (b, x) :: σ, c, c', y => if c = b then (c', y) :: σ else (b, x) :: Store.ren σ c c' y

def rowsOf (σ : Store) (d : D) : Option (Nat × List (List D)) :=
  match d with
  | .sl sz rows _ => some (sz, rows)
  | .str s => some (1, s.map fun c => [.int .u8 (c.toNat : Int)])
  | .arr b sz n _ => match σ.get b with
    | some (.arr sz' rows _) => if sz = sz' ∧ n ≤ rows.length then some (sz, rows.take n) else none
    | _ => none
  | _ => none

def capB : Nat := 140737488355328

/-- append. -/
def napp (P : Program) (σ : Store) (ts : Array TypeId) (s x : D) (K : D → Store → Prop) : Prop :=
  match ts[0]?.bind (sle P), ts[0]?.bind (eby P), s, rowsOf σ x with
  | some (e, _, sz), some by_, .sl sz0 rows tk, some (sz1, new) =>
    ((∃ z, zc P e = some z ∧ z.length = sz) ∧ (∃ t1, ts[1]? = some t1 ∧ ((sle P t1).isSome = true ∨ isStrT P t1 = true)) ∧ 0 < sz ∧ 0 < by_ ∧ (rows = [] ∨ sz0 = sz) ∧ (new = [] ∨ sz1 = sz) ∧ new.all (·.all D.isCell) = true ∧ (rows.length + new.length) * by_ ≤ capB) ∧
    match tk with
    | .own b cap =>
      (sz0 = sz ∧ σ.get b = some (.tail sz rows.length cap)) ∧
      ∀ b' cap', (b' = b ∨ b' ∉ σ.keys) → K (.sl sz (rows ++ new) (.own b' cap')) (σ.ren b b' (.tail sz (rows.length + new.length) cap'))
    | .nil => (new = [] → K (.sl sz [] .nil) σ) ∧ (new ≠ [] → ∀ b cap, b ∉ σ.keys → K (.sl sz new (.own b cap)) ((b, .tail sz new.length cap) :: σ))
    | .full => (new = [] → K (.sl sz0 rows .full) σ) ∧ (new ≠ [] → ∀ b cap, b ∉ σ.keys → K (.sl sz (rows ++ new) (.own b cap)) ((b, .tail sz (rows.length + new.length) cap) :: σ))
    | .no => False
  | _, _, _, _ => False

/-- append, to rows that are written to. -/
def nappM (P : Program) (σ : Store) (ts : Array TypeId) (s x : D) (K : D → Store → Prop) : Prop :=
  match ts[0]?.bind (sle P), ts[0]?.bind (eby P), rowsOf σ x with
  | some (e, _, sz), some by_, some (sz1, new) =>
    ((∃ z, zc P e = some z ∧ z.length = sz) ∧ (∃ t1, ts[1]? = some t1 ∧ ((sle P t1).isSome = true ∨ isStrT P t1 = true)) ∧ 0 < sz ∧ 0 < by_ ∧ (new = [] ∨ sz1 = sz) ∧ new.all (·.all D.isCell) = true) ∧
    match s with
    | .sl sz0 rows tk => ((tk = .nil ∨ tk = .full) ∧ (rows = [] ∨ sz0 = sz) ∧ rows.all (·.all D.isCell) = true ∧ (rows.length + new.length) * by_ ≤ capB) ∧
        (new = [] → K (.sl sz0 rows tk) σ) ∧ (new ≠ [] → ∀ b cap, b ∉ σ.keys → rows.length + new.length ≤ cap → K (.arr b sz (rows.length + new.length) cap) ((b, .arr sz (rows ++ new) cap) :: σ))
    | .arr b sz0 n cap => match σ.get b with
      | some (.arr sz2 rows cap2) => (sz0 = sz ∧ sz2 = sz ∧ cap2 = cap ∧ n ≤ rows.length ∧ (n + new.length) * by_ ≤ capB) ∧
          (n + new.length ≤ cap → K (.arr b sz (n + new.length) cap) (σ.upd b (.arr sz (rows.take n ++ new ++ rows.drop (n + new.length)) cap))) ∧
          (cap < n + new.length → ∀ b' cap', b' ∉ σ.keys → n + new.length ≤ cap' → K (.arr b' sz (n + new.length) cap') (σ.ren b b' (.arr sz (rows.take n ++ new) cap')))
      | _ => False
    | _ => False
  | _, _, _ => False

/-- append of zeros, to nothing. -/
def nappZ (P : Program) (σ : Store) (ts : Array TypeId) (s x : D) (K : D → Store → Prop) : Prop :=
  match ts[0]?.bind (sle P), ts[0]?.bind (eby P), ts[1]?.bind (ink P), s, x with
  | some (e, _, sz), some by_, some _, .sl _ [] .nil, .int .i64 n => match zc P e with
    | some z => (z.length = sz ∧ 0 < sz ∧ 0 < by_ ∧ 0 < n ∧ n * by_ ≤ capB) ∧ ∀ b cap, b ∉ σ.keys → n.toNat ≤ cap → K (.arr b sz n.toNat cap) ((b, .arr sz (List.replicate n.toNat z) cap) :: σ)
    | none => False
  | _, _, _, _, _ => False

/-- A store through a pointer. -/
def nstore (P : Program) (σ : Store) (T : TypeId) (a x : D) (K : D → Store → Prop) : Prop :=
  match a, szOf P T with
  | .ptr b o, some n => match σ.get b with
    | some (.cells cs) => (x.flat = true ∧ x.cellsOf.all D.isCell = true ∧ x.cellsOf.length = n ∧ o + n ≤ cs.length) ∧ K (.v undef) (σ.upd b (.cells (putCells cs o x.cellsOf)))
    | some (.arr sz rows cap) => (x.flat = true ∧ x.cellsOf.all D.isCell = true ∧ x.cellsOf.length = n ∧ o % sz + n ≤ sz ∧ o / sz < rows.length) ∧
        K (.v undef) (σ.upd b (.arr sz (rows.set (o / sz) (putCells (rows.getD (o / sz) []) (o % sz) x.cellsOf)) cap))
    | _ => False
  | _, _ => False

/-- An entry of a map. -/
def nput (P : Program) (σ : Store) (T : TypeId) (m k x : D) (K : D → Store → Prop) : Prop :=
  match m, mpt P T with
  | .mp b, some (kt, _) => match σ.get b with
    | some (.map es) => match mput k x es with
      | some es' => keyOK P kt k = true ∧ K (.v undef) (σ.upd b (.map es'))
      | none => False
    | _ => False
  | _, _ => False

def isYield : Fn → Bool
  | .yield _ => true
  | _ => false

def nev (P : Program) (imm : Bool) (σ : Store) (ρ : Operand → D) (K X : D → Store → Prop) : Op → Prop
  | .alloc T => match zc P T with
    | some cs => bif imm then K (.el cs) σ else ∀ b, b ∉ σ.keys → K (.ptr b 0) ((b, .cells cs) :: σ)
    | none => False
  | .box _ x => ((ρ x).flat = true ∧ (ρ x).cellsOf.all D.isCell = true) ∧
      bif imm then K (.el (ρ x).cellsOf) σ else ∀ b, b ∉ σ.keys → K (.ptr b 0) ((b, .cells (ρ x).cellsOf) :: σ)
  | .buildSlice T len parts => match sle P T with
    | some (e, _, sz) => match zc P e with
      | some z => match fillD (pls sz len) (zrep z len) (parts.toList.map fun p => (p.1, ρ p.2)) with
        | some cs => ((parts.toList.map fun p => (p.1, ρ p.2)).all (·.2.flat) = true ∧ z.length = sz ∧ len * sz ≤ 16777216 ∧ len ≤ lim ∧ 0 < sz) ∧ K (.sl sz (chunk sz len cs) .full) σ
        | none => False
      | none => False
    | none => False
  | .store T a x => nstore P σ T (ρ a) (ρ x) K
  | .makeMap T none => ∀ b, b ∉ σ.keys → K (.mp b) ((b, .map []) :: σ)
  | .mapUpdate T m k x => nput P σ T (ρ m) (ρ k) (ρ x) K
  | .insert T m k x => nput P σ T (ρ m) (ρ k) (ρ x) K
  | .range T x => match ρ x with
    | .str s => isStrT P T = true ∧ ∀ b, b ∉ σ.keys → K (.ptr b 0) ((b, .siter s 0) :: σ)
    | _ => False
  | .next it true => match ρ it with
    | .ptr b 0 => match σ.get b with
      | some (.siter s pos) => s.length ≤ lim ∧
          (pos < s.length → K (.tup [.bool true, .int .i64 pos, .int .i32 (Utf8.decode ⟨s.toArray⟩ pos).1]) (σ.upd b (.siter s (pos + (Utf8.decode ⟨s.toArray⟩ pos).2)))) ∧
          (s.length ≤ pos → K (.tup [.bool false]) σ)
      | _ => False
    | _ => False
  | .makeSlice T l c => match ρ l, ρ c, sle P T, eby P T with
    | .int .i64 n, .int .i64 m, some (e, _, sz), some by_ => match zc P e with
      | some z => (0 ≤ n ∧ n ≤ m ∧ m * by_ ≤ capB ∧ z.length = sz ∧ 0 < sz ∧ 0 < by_) ∧
          bif imm then (n = 0 ∧ ∀ b, b ∉ σ.keys → K (.sl sz [] (.own b m.toNat)) ((b, .tail sz 0 m.toNat) :: σ))
          else ∀ b, b ∉ σ.keys → K (.arr b sz n.toNat m.toNat) ((b, .arr sz (List.replicate n.toNat z) m.toNat) :: σ)
      | none => False
    | _, _, _, _ => False
  | .call { callee := .value f, args := xs, .. } => match ρ f with
    | .fn fn fs cs => (isYield fn = true → cs = []) ∧ ((∃ d, PCall P fn (fs ++ xs.toList.map ρ ++ cs) d ∧ K d σ) ∨
        ACall P fn (fs ++ xs.toList.map ρ ++ cs) σ fun r σ' => match r with
          | .ret d => K d σ'
          | .pan d => X d σ')
    | _ => False
  | .call { callee := .builtin .append, args := xs, argTypes := ts } => match xs.toList.map ρ with
    | [s, x] => bif imm then nappM P σ ts s x K ∨ nappZ P σ ts s x K else napp P σ ts s x K
    | _ => False
  | .panic x => match ρ x with
    | .ifc t d => X (.ifc t d) σ
    | _ => False
  | _ => False

/-- What running an operation comes to. -/
inductive NOut (P : Program) (M : Mem) (w : World) (σ : Store) (s : Sem Next) (K X : D → Store → Prop) : Prop where
  | value (M' : Mem) (w' : World) (σ' : Store) (d : D) (v : Value) (h : s.run P w = .ok (.value v) w') (st : Step M w σ M' w' σ') (c : Conc M' w' σ') (r : R M' d v) (k : K d σ')
  | skip (M' : Mem) (w' : World) (σ' : Store) (h : s.run P w = .ok .skip w') (st : Step M w σ M' w' σ') (c : Conc M' w' σ') (k : K (.v undef) σ')
  | enter (g : Nat) (args : Array Value) (h : s.run P w = .ok (.enter g args) w) (hc : CallsIn Fence.wide 0 P g args w fun e w' => ∃ M' σ' r, Step M w σ M' w' σ' ∧ Conc M' w' σ' ∧ ResR M' r e ∧
      (match r with | .ret d => K d σ' | .pan d => X d σ'))
  | round (l fn : Nat) (tmps : Array Value) (assign body : Code) (h : s.run P w = .ok (.round l fn tmps assign body) w) (hc : RoundIn Fence.wide 0 P l fn tmps assign body w fun e w' => ∃ M' σ' r, Step M w σ M' w' σ' ∧ Conc M' w' σ' ∧ ResR M' r e ∧
      (match r with | .ret d => K d σ' | .pan d => X d σ'))
  | pan (M' : Mem) (w' : World) (σ' : Store) (d : D) (v : Value) (h : s.run P w = .halt (.panic v) w') (st : Step M w σ M' w' σ') (c : Conc M' w' σ') (r : R M' d v) (k : X d σ')

section
variable {P : Program} {M : Mem} {w : World} {σ : Store} {K X : D → Store → Prop}

theorem run_zero {T : TypeId} {cs : List D} (h : zc P T = some cs) : ∃ z, (zeroValue T).run P w = .ok z w ∧ RAll M cs z.cells.toList ∧ cs.all D.isCell = true := by
  unfold zc at h
  split at h
  · rename_i z hz
    split at h
    · rename_i hc
      cases h
      cases hi : P.info? T with
      | none => rw [hi] at hz; cases hz
      | some i =>
        rw [hi] at hz
        have hz' : i.zero = some z := by simpa using hz
        exact ⟨z, by simp only [zeroValue, Sem.run_bind, run_typeInfo' hi, Result.andThen_ok, hz', Sem.run_pure], RAll_ofC M _, hc⟩
    · cases h
  · cases h

theorem newVar_run (T : TypeId) (v : Value) : (newVar T v).run P w = .ok ⟨w.heap.size, 0, none⟩ (w.alloc (.cells v.cells T (0, 0))) := rfl

theorem new_out {v : Value} {T : TypeId} {cs : List D} {imm : Bool} {s : Sem Next} (hc : Conc M w σ) (hr : RAll M cs v.cells.toList) (hcell : cs.all D.isCell = true)
    (hs : s.run P w = .ok (.value (.pointer (some ⟨w.heap.size, 0, none⟩))) (w.alloc (.cells v.cells T (0, 0))))
    (h : bif imm then K (.el cs) σ else ∀ b, b ∉ σ.keys → K (.ptr b 0) ((b, .cells cs) :: σ)) : NOut P M w σ s K X := by
  have e : v.cells = List.toArray v.cells.toList := by simp
  rw [e] at hs
  cases imm with
  | true =>
    obtain ⟨h1, h2, h3⟩ := hc.newImm v.cells.toList T (0, 0)
    refine .value _ _ σ _ _ hs h2 h1 ?_ h
    simp only [R]
    exact ⟨_, 0, rfl, RCells_of _ _ 0 (hr.mono h2.le) (by simpa using h3)⟩
  | false =>
    have hb : BoxR M (w.alloc (.cells (List.toArray v.cells.toList) T (0, 0))) w.heap.size (.cells cs) :=
      ⟨⟨_, T, alloc_heap_new w _, hr, hcell⟩, hc.mem_none⟩
    obtain ⟨h1, h2, h3⟩ := hc.newBox hb
    exact .value _ _ _ _ _ hs h2 h1 (by simp only [R]) (h _ h3)

theorem RRows_chunk (sz b : Nat) : ∀ (n : Nat) (cs : List D) (o : Nat), cs.length = n * sz → RCells M cs b o → RRows M sz (chunk sz n cs) b o
  | 0, _, _, _, _ => by simp [chunk, RRows]
  | n + 1, cs, o, hl, h => by
    rw [Nat.add_mul] at hl
    simp only [chunk, RRows]
    refine ⟨by simp; omega, ?_, RRows_chunk sz b n (cs.drop sz) (o + sz) (by simp; omega) (h.drop sz)⟩
    have key : ∀ (k : Nat) (ds : List D) (o : Nat), RCells M ds b o → RCells M (ds.take k) b o := by
      intro k
      induction k with
      | zero => intros; simp [RCells]
      | succ k ih =>
        intro ds o h
        cases ds with
        | nil => simp [RCells]
        | cons d ds => simp only [RCells, List.take_succ_cons] at h ⊢; exact ⟨h.1, ih ds _ h.2⟩
    exact key sz cs o h

theorem chunk_length (sz : Nat) : ∀ (n : Nat) (cs : List D), (chunk sz n cs).length = n
  | 0, _ => rfl
  | n + 1, cs => by simp [chunk, chunk_length sz n]

theorem zrep_length (z : List D) : ∀ n, (zrep z n).length = n * z.length
  | 0 => by simp [zrep]
  | n + 1 => by simp only [zrep, List.length_append, zrep_length z n, Nat.add_mul]; omega

theorem RAll_zrep {z : List D} {vs : List Value} (h : RAll M z vs) : ∀ n, ∃ us, us.length = n * vs.length ∧ RAll M (zrep z n) us ∧ ∀ i, i < n * vs.length → us[i]? = some (vs[i % vs.length]!)
  | 0 => ⟨[], by simp, by simp [zrep, RAll], by simp⟩
  | n + 1 => by
    obtain ⟨us, h1, h2, h3⟩ := RAll_zrep h n
    refine ⟨vs ++ us, by rw [List.length_append, h1, Nat.add_mul]; omega, RAll.append h h2, fun i hi => ?_⟩
    rw [Nat.add_mul] at hi
    rcases Nat.lt_or_ge i vs.length with hlt | hge
    · rw [List.getElem?_append_left hlt, Nat.mod_eq_of_lt hlt, List.getElem?_eq_getElem hlt]
      simp [hlt]
    · rw [List.getElem?_append_right hge, h3 _ (by omega)]
      congr 2
      rw [← Nat.mod_eq_sub_mod hge]

theorem fillD_length {pl : List (Nat × Nat)} : ∀ {ds : List (Nat × D)} {cs cs' : List D}, fillD pl cs ds = some cs' → cs'.length = cs.length
  | [], cs, cs', h => by simp only [fillD] at h; cases h; rfl
  | (i, d) :: ds, cs, cs', h => by
    simp only [fillD] at h
    split at h
    · split at h
      · rename_i hc
        rw [fillD_length h]
        simp [putCells]
        omega
      · cases h
    · cases h

theorem buildSlice_out (hc : Conc M w σ) {T e : TypeId} {g : Bool} {sz len : Nat} {z cs : List D} {ds : List (Nat × D)} {parts : List (Nat × Value)} {s : Sem Next}
    (hT : sle P T = some (e, g, sz)) (hz : zc P e = some z) (hf : fillD (pls sz len) (zrep z len) ds = some cs) (hall : ds.all (·.2.flat) = true) (hzl : z.length = sz) (h24 : len * sz ≤ 16777216) (hlim : len ≤ lim) 
    (he : parts.map Prod.fst = ds.map Prod.fst) (hr : RAll M (ds.map Prod.snd) (parts.map Prod.snd))
    (hs : s = (do pure (Next.value (← Instr.buildSlice T len (List.toArray parts)))))
    (h : K (.sl sz (chunk sz len cs) .full) σ) : NOut P M w σ s K X := by
  obtain ⟨hu, hl⟩ := sle_some hT
  obtain ⟨zv, hz1, hz2, hz3⟩ := run_zero (P := P) (M := M) (w := w) hz
  have hzl2 := hz2.length
  obtain ⟨us, hu1, hu2, hu3⟩ := RAll_zrep hz2 len
  have hplace : ∀ i x, (pls sz len)[i]? = some x → (fun i => some (i * sz, sz)) i = some x := by
    intro i y hy
    unfold pls at hy
    rw [List.getElem?_map] at hy
    cases hi : (List.range len)[i]? with
    | none => rw [hi] at hy; cases hy
    | some j =>
      rw [hi] at hy
      have : j = i := by
        rw [List.getElem?_eq_some_iff] at hi
        obtain ⟨_, hi⟩ := hi
        simpa using hi.symm
      subst this
      simpa using hy
  obtain ⟨vs', hfill, hr'⟩ := fill_sound (M := M) (place := fun i => some (i * sz, sz)) hplace hu2 he hr hf hall
  have hzero : (Array.range (len * sz)).map (fun x => (if len * sz = 0 then (#[] : Array Value) else zv.cells)[x % (if len * sz = 0 then (#[] : Array Value) else zv.cells).size]!) = List.toArray us := by
    apply Array.ext_getElem?
    intro i
    simp only [Array.getElem?_map, List.getElem?_toArray]
    rcases Nat.lt_or_ge i (len * sz) with hi | hi
    · rw [if_neg (by omega)]
      have : (Array.range (len * sz))[i]? = some i := by simp [hi]
      rw [this]
      have h3 := hu3 i (by rw [← hzl2, hzl]; exact hi)
      rw [h3]
      simp [getElem!_def]
    · have h4 : us[i]? = none := by rw [List.getElem?_eq_none]; rw [hu1, ← hzl2, hzl]; exact hi
      rw [h4]
      simp [hi]
  have hrun : (Instr.buildSlice T len (List.toArray parts)).run P w = .ok (.slice (some ⟨w.heap.size, 0, none⟩) len len) (w.alloc (.cells (List.toArray vs') e (0, 0))) := by
    unfold Instr.buildSlice
    simp only [Sem.run_bind, run_underlying' hu, Result.andThen_ok, run_sizeOf' hl]
    rw [if_neg (by omega)]
    by_cases h0 : len * sz = 0
    · simp only [if_pos h0] at hzero ⊢
      simp only [Sem.run_bind, Sem.run_pure, Result.andThen_ok]
      rw [hzero, hfill]
      rfl
    · simp only [if_neg h0] at hzero ⊢
      simp only [Sem.run_bind, Sem.run_pure, Result.andThen_ok, hz1]
      rw [hzero, hfill]
      rfl
  obtain ⟨h1, h2, h3⟩ := hc.newImm vs' e (0, 0)
  have hcl : cs.length = len * sz := by rw [fillD_length hf, zrep_length, hzl]
  subst hs
  refine NOut.value _ _ σ _ _ (lift_value hrun) h2 h1 ?_ h
  simp only [R, chunk_length, TokR]
  exact ⟨_, _, rfl, Nat.le_refl _, hlim, fun _ => ⟨_, 0, rfl, RRows_chunk sz _ len cs 0 hcl (RCells_of _ _ 0 (hr'.mono h2.le) (by simpa using h3))⟩, rfl⟩

end

end Go.Proofs.Ytgccnkihonmlbaa

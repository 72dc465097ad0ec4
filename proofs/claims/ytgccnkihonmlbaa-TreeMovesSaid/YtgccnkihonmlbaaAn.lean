/- Own layer, part 23: rows that are written to, and that stay from some time on; maps as families. -/
import Derived.Test.YtgccnkihonmlbaaAm
namespace Go.Proofs.Ytgccnkihonmlbaa
open Go Go.RowKit
set_option linter.unusedSimpArgs false
set_option linter.unusedVariables false

section
variable {P : Program} {M : Mem} {w : World} {σ : Store} {r : Option Nat} {nt : Nat}

def boxMem (M : Mem) (b : Nat) (vs : List Value) : Mem := fun b' o => if b' = b then vs[o]? else M b' o

/-- A box of cells becomes memory that stays. -/
theorem Conc.freeze (hc : Conc M w σ) {b : Nat} {x : Box} {vs : List Value} {T : TypeId} {fz : Nat × Nat} (hg : σ.get b = some x) (hh : w.heap[b]? = some (.cells (List.toArray vs) T fz)) (hm : ∀ o, M b o = none) :
    Mem.le M (boxMem M b vs) ∧ Conc (boxMem M b vs) w (σ.del b) ∧ Step M w σ (boxMem M b vs) w (σ.del b) := by
  have hbk : b ∈ σ.keys := Store.get_mem hg
  have hle : Mem.le M (boxMem M b vs) := fun b' o x hx => by
    show (if b' = b then _ else _) = _
    rw [if_neg (fun e => by subst e; rw [hm] at hx; cases hx)]
    exact hx
  have hdel := Store.del_sublist σ b
  have hnot := Store.del_mem (c := b) hc.nodup
  refine ⟨hle, ⟨fun b' o x hx => ?_, hc.nodup.sublist (hdel.map Prod.fst), fun b' y hy => ?_⟩, ⟨hle, rfl, rfl, rfl, Nat.le_refl _, fun _ _ _ => rfl, fun b' hb' => .inl ((hdel.map Prod.fst).subset hb'), fun b' o x hx => ?_⟩⟩
  · have hx' : (if b' = b then vs[o]? else M b' o) = some x := hx
    split at hx'
    · rename_i e; subst e
      simp only [World.cell?, hh]
      simpa using hx'
    · exact hc.mem b' o x hx'
  · refine (hc.box b' y (hdel.subset hy)).mono hle (fun o v hv => ?_) rfl
    have hne : b' ≠ b := fun e => hnot (e ▸ List.mem_map_of_mem (f := Prod.fst) hy)
    have hv' : (if b' = b then vs[o]? else M b' o) = some v := hv
    rwa [if_neg hne] at hv'
  · have hx' : (if b' = b then vs[o]? else M b' o) = some x := hx
    split at hx'
    · rename_i e; exact .inr (.inr (e ▸ hbk))
    · exact .inl hx'

/-! ### Rows that stay from some time on -/
def fra1 (b sz : Nat) (rows : List (List D)) : D → D
  | .arr b' sz' n cap => if b' = b ∧ sz' = sz ∧ n ≤ rows.length ∧ n ≤ cap ∧ n ≤ lim then .sl sz (rows.take n) .no else .arr b' sz' n cap
  | d => d
def fra (b sz : Nat) (rows : List (List D)) : D → D
  | .arr b' sz' n cap => if b' = b ∧ sz' = sz ∧ n ≤ rows.length ∧ n ≤ cap ∧ n ≤ lim then .sl sz (rows.take n) .no else .arr b' sz' n cap
  | .ag cs => .ag (cs.map (fra1 b sz rows))
  | .tup cs => .tup (cs.map (fra1 b sz rows))
  | d => d
def fraE (ts : List Nat) (b sz : Nat) (rows : List (List D)) (env : Env) : Env := fun i => bif ts.contains i then fra b sz rows (env i) else env i
def fraB (b sz : Nat) (rows : List (List D)) : Box → Box
  | .cells cs => .cells (cs.map (fra1 b sz rows))
  | x => x
def fraS (bs : List Nat) (b sz : Nat) (rows : List (List D)) (σ : Store) : Store := σ.map fun x => (x.1, bif bs.contains x.1 then fraB b sz rows x.2 else x.2)

theorem fraS_keys (bs : List Nat) (b sz : Nat) (rows : List (List D)) (σ : Store) : (fraS bs b sz rows σ).keys = σ.keys := by
  unfold fraS Store.keys
  simp [Function.comp_def]

theorem R_fra1 {M' : Mem} {b sz : Nat} {rows : List (List D)} (hle : Mem.le M M') (hb : RRows M' sz rows b 0) {d : D} {v : Value} (h : R M d v) : R M' (fra1 b sz rows d) v := by
  have h' := h.mono hle
  unfold fra1
  split
  · rename_i b' sz' n cap
    split
    · rename_i e
      obtain ⟨rfl, rfl, hn, hc, hl⟩ := e
      simp only [R] at h ⊢
      have htn : (rows.take n).length = n := by rw [List.length_take]; exact Nat.min_eq_left hn
      exact ⟨_, cap, by rw [htn]; exact h, by rw [htn]; exact hc, by rw [htn]; exact hl, fun _ => ⟨b', 0, rfl, hb.take n⟩, by simp only [TokR]⟩
    · exact h'
  · exact h'
theorem RAll_fra1 {M' : Mem} {b sz : Nat} {rows : List (List D)} (hle : Mem.le M M') (hb : RRows M' sz rows b 0) : ∀ {ds : List D} {vs : List Value}, RAll M ds vs → RAll M' (ds.map (fra1 b sz rows)) vs
  | [], [], _ => by simp [RAll]
  | d :: ds, v :: vs, h => by simp only [RAll, List.map_cons] at h ⊢; exact ⟨R_fra1 hle hb h.1, RAll_fra1 hle hb h.2⟩
  | [], _ :: _, h => by simp [RAll] at h
  | _ :: _, [], h => by simp [RAll] at h
theorem R_fra {M' : Mem} {b sz : Nat} {rows : List (List D)} (hle : Mem.le M M') (hb : RRows M' sz rows b 0) {d : D} {v : Value} (h : R M d v) : R M' (fra b sz rows d) v := by
  have h' := h.mono hle
  unfold fra
  split
  · have := R_fra1 hle hb h
    unfold fra1 at this
    exact this
  · simp only [R] at h ⊢
    obtain ⟨vs, e, h1⟩ := h
    exact ⟨vs, e, RAll_fra1 hle hb h1⟩
  · simp only [R] at h ⊢
    obtain ⟨vs, e, h1⟩ := h
    exact ⟨vs, e, RAll_fra1 hle hb h1⟩
  · exact h'

theorem fra1_cell (b sz : Nat) (rows : List (List D)) (d : D) : (fra1 b sz rows d).isCell = d.isCell := by
  unfold fra1
  split
  · split <;> rfl
  · rfl

theorem BoxR_fra {M' : Mem} {b sz : Nat} {rows : List (List D)} (hle : Mem.le M M') (hb : RRows M' sz rows b 0) {c : Nat} {x : Box} (h : BoxR M' w c x) (h0 : BoxR M w c x) : BoxR M' w c (fraB b sz rows x) := by
  cases x with
  | cells cs =>
    obtain ⟨_, h4⟩ := h
    obtain ⟨⟨vs, T, k1, k2, k3⟩, k4⟩ := h0
    refine ⟨⟨vs, T, k1, RAll_fra1 hle hb k2, ?_⟩, h4⟩
    rw [List.all_map]
    simpa [Function.comp_def, fra1_cell] using k3
  | _ => exact h

theorem fra_conc {a : Act} {env : Env} {b sz cap : Nat} {rows : List (List D)} (ts bs : List Nat) (hc : Conc M w σ) (he : EnvR M nt env a) (hg : σ.get b = some (.arr sz rows cap)) :
    ∃ M', Conc M' w (fraS bs b sz rows (σ.del b)) ∧ Step M w σ M' w (fraS bs b sz rows (σ.del b)) ∧ EnvR M' nt (fraE ts b sz rows env) a := by
  obtain ⟨⟨vs, T, hh, h2, h3, h4, h5⟩, hm⟩ := hc.box b _ (Store.mem_of_get hg)
  obtain ⟨hle, c1, s1⟩ := hc.freeze hg hh hm
  have hrows : RRows (boxMem M b vs) sz rows b 0 := by
    refine RRows.of_flat (fun r hr => (h5 r hr).1) (RCells_of _ b 0 (h4.mono hle) fun i v hv => ?_)
    show (if b = b then _ else _) = _
    rw [if_pos rfl, Nat.zero_add]
    rw [List.getElem?_take] at hv
    split at hv
    · exact hv
    · cases hv
  have hk := fraS_keys bs b sz rows (σ.del b)
  refine ⟨boxMem M b vs, ⟨c1.mem, by rw [hk]; exact c1.nodup, fun c y hy => ?_⟩, { s1 with keys := fun c hc' => s1.keys c (by rwa [hk] at hc') }, he.1, fun i => ?_⟩
  · obtain ⟨⟨c', x⟩, hx, e⟩ := List.mem_map.1 hy
    cases e
    have hx0 := hc.box c' x ((Store.del_sublist σ b).subset hx)
    have hx1 := c1.box c' x hx
    show BoxR _ w c' (bif bs.contains c' then fraB b sz rows x else x)
    cases bs.contains c' with
    | true => exact BoxR_fra hle hrows hx1 hx0
    | false => exact hx1
  · unfold fraE
    cases ts.contains i with
    | true => exact R_fra hle hrows (he.2 i)
    | false => exact (he.2 i).mono hle

/-- ROWS THAT WERE WRITTEN TO STAY FROM NOW ON. -/
theorem fza (b : Nat) (ts bs : List Nat) {sz cap : Nat} {rows : List (List D)} {c : Code} {env : Env} {Q : AE → Env → Store → Prop} (hg : σ.get b = some (.arr sz rows cap)) (h : AWp P r nt c (fraE ts b sz rows env) (fraS bs b sz rows (σ.del b)) Q) : AWp P r nt c env σ Q := by
  intro M w a B hc he hd
  obtain ⟨M', c1, s1, e1⟩ := fra_conc ts bs hc he hg
  exact wpIn_mono (h M' w a B c1 e1 (hd.step s1)) (rgPost.trans s1)

/-! ### Slices that grow and are written to -/
def mpD (sz n : Nat) : Option (Nat × Nat) → D
  | none => .sl 0 [] .nil
  | some (b, c) => .arr b sz n c
def mpS (sz : Nat) (rows : List (List D)) : Option (Nat × Nat) → Store
  | none => []
  | some (b, c) => [(b, .arr sz rows c)]
def mpC (n : Nat) : Option (Nat × Nat) → Prop
  | none => n = 0
  | some (_, c) => n ≤ c
theorem nappM_grow {ts : Array TypeId} {T U V : TypeId} {g : Bool} {sz by_ : Nat} {z : List D} {rows new : List (List D)} {o : Option (Nat × Nat)} {ρ : Store} {tk : Tok} {K : D → Store → Prop}
    (hok : mpC rows.length o) (hfr : apFr o ρ) (hT : ts[0]? = some T) (hV : ts[1]? = some V) (hV' : (sle P V).isSome = true) (hs : sle P T = some (U, g, sz)) (hy : eby P T = some by_) (hz : zc P U = some z)
    (hside : (z.length = sz ∧ 0 < sz ∧ 0 < by_) ∧ new.all (·.all D.isCell) = true ∧ new ≠ [] ∧ (rows.length + new.length) * by_ ≤ capB)
    (hK : ∀ b c, b ∉ ρ.keys → rows.length + new.length ≤ c → K (mpD sz (rows.length + new.length) (some (b, c))) (mpS sz (rows ++ new) (some (b, c)) ++ ρ)) :
    nappM P (mpS sz rows o ++ ρ) ts (mpD sz rows.length o) (.sl sz new tk) K := by
  obtain ⟨⟨hz1, h0, hb0⟩, hc, hne, hfit⟩ := hside
  unfold nappM
  simp only [hT, Option.bind_some, hs, hy, rowsOf]
  refine ⟨⟨⟨z, hz, hz1⟩, ⟨V, hV, .inl hV'⟩, h0, hb0, by simp, hc⟩, ?_⟩
  cases o with
  | none =>
    have hr : rows = [] := List.eq_nil_of_length_eq_zero hok
    subst hr
    simp only [mpD, mpS, List.nil_append, List.length_nil, Nat.zero_add] at hK hfit ⊢
    refine ⟨⟨by simp, by simp, by simp, by simpa using hfit⟩, fun e => absurd e hne, fun _ b cap hb hcap => ?_⟩
    exact hK b cap hb hcap
  | some p =>
    obtain ⟨b, c⟩ := p
    have hb := hfr b c rfl
    simp only [mpD, mpS, List.cons_append, List.nil_append, Store.get, if_true] at hK ⊢
    refine ⟨⟨trivial, trivial, trivial, Nat.le_refl _, hfit⟩, fun hle => ?_, fun hlt b' cap' hb' hcap' => ?_⟩
    · have := hK b c hb hle
      simp only [Store.upd, if_true, List.take_length]
      rw [List.drop_eq_nil_of_le (Nat.le_add_right _ _), List.append_nil]
      exact this
    · simp only [Store.keys, List.map_cons, List.mem_cons, not_or] at hb'
      have := hK b' cap' hb'.2 hcap'
      simp only [Store.ren, if_true, List.take_length]
      exact this

/-- Ways that meet again. -/
theorem jn {α : Type} (E : α → Env) (S : α → Store) (ok : α → Prop) {x y : Code} {env : Env} {Q : AE → Env → Store → Prop}
    (h1 : AWp P r nt x env σ (thenQ (fun env' σ' => ∃ z, ok z ∧ EnvLe (E z) env' ∧ (S z).Sublist σ') Q)) (h2 : ∀ z, ok z → AWp P r nt y (E z) (S z) Q) : AWp P r nt (.seq x y) env σ Q := by
  refine sq (h1.mono fun e env' σ' h => ?_)
  cases e with
  | normal =>
    obtain ⟨z, hz, le, sub⟩ := h
    exact weak (E z) le sub (h2 z hz)
  | _ => exact h

/-! ### Calls that come back with a result and a store -/
def RCall (P : Program) (f : Fn) (args : List D) (σ : Store) {α : Type} (F : α → D) (S : α → Store) (ok : α → Prop) : Prop := ACall P f args σ fun r σ' => ∃ y, ok y ∧ r = .ret (F y) ∧ σ' = S y
theorem PCall.toR {f : Fn} {args : List D} {d : D} (h : PCall P f args d) (σ : Store) : RCall P f args σ (fun _ : Unit => d) (fun _ => σ) (fun _ => True) := (h.at σ).mono fun _ _ ⟨e1, e2⟩ => ⟨(), trivial, e1, e2⟩
theorem RCall.ok {f : Fn} {args : List D} {α : Type} {F : α → D} {S : α → Store} {ok : α → Prop} (h : okAll args → RCall P f args σ F S ok) : RCall P f args σ F S ok := ACall.ok h
theorem RCall.frame {f : Fn} {args : List D} {α : Type} {F : α → D} {S : α → Store} {ok : α → Prop} (h : RCall P f args σ F S ok) (ρ : Store) : RCall P f args (σ ++ ρ) F (fun y => S y ++ ρ) ok :=
  (ACall.frame ρ h).mono fun r σ' ⟨σ1, e, y, h1, h2, h3⟩ => ⟨y, h1, h2, by rw [e, h3]⟩
theorem RCall.frameL {f : Fn} {args : List D} {α : Type} {F : α → D} {S : α → Store} {ok : α → Prop} (h : RCall P f args σ F S ok) (ρ : Store) : RCall P f args (ρ ++ σ) F (fun y => ρ ++ S y) ok :=
  (ACall.frameL ρ h).mono fun r σ' ⟨σ1, e, y, h1, h2, h3⟩ => ⟨y, h1, h2, by rw [e, h3]⟩
theorem RCall.toP {f : Fn} {args : List D} {d : D} (h : RCall P f args [] (fun _ : Unit => d) (fun _ => []) (fun _ => True)) : PCall P f args d := h.mono fun _ _ ⟨_, _, e1, e2⟩ => ⟨e1, e2⟩
theorem callR {g : Nat} {fs cs xs : List D} {α : Type} {F : α → D} {S : α → Store} {ok : α → Prop} {K X : D → Store → Prop} (h : RCall P (.func g) (fs ++ xs ++ cs) σ F S ok) (hk : ∀ y, ok y → K (F y) (S y)) : CallK P (.fn (.func g) fs cs) xs K X σ := by
  refine ⟨(fun hy => by cases hy), .inr (ACall.mono h fun r σ' ⟨y, h1, h2, h3⟩ => ?_)⟩
  subst h2; subst h3
  exact hk y h1
theorem retR {rs : List ResultVar} {α : Type} {F : α → D} {S : α → Store} {ok : α → Prop} (y : α) {env : Env} (hs : (S y).Sublist σ) (ho : ok y) (h : (resD P σ env rs).1 ∧ (resD P σ env rs).2 = F y) :
    retQ P rs (fun r σ' => ∃ y, ok y ∧ r = .ret (F y) ∧ σ' = S y) .ret env σ := ⟨h.1, S y, hs, y, ho, by rw [h.2], rfl⟩
theorem retRn {rs : List ResultVar} {α : Type} {F : α → D} {S : α → Store} {ok : α → Prop} (y : α) {env : Env} (hs : (S y).Sublist σ) (ho : ok y) (h : (resD P σ env rs).1 ∧ (resD P σ env rs).2 = F y) :
    retQ P rs (fun r σ' => ∃ y, ok y ∧ r = .ret (F y) ∧ σ' = S y) .normal env σ := ⟨h.1, S y, hs, y, ho, by rw [h.2], rfl⟩

/-! ### Maps as families -/
theorem take_mapr {α β : Type} (f : α → β) (n : Nat) (l : List α) : List.take n (List.map f l) = List.map f (List.take n l) := List.map_take.symm
theorem drop_mapr {α β : Type} (f : α → β) (n : Nat) (l : List α) : List.drop n (List.map f l) = List.map f (List.drop n l) := List.map_drop.symm
theorem append_mapr {α β : Type} (f : α → β) (l m : List α) : List.map f l ++ List.map f m = List.map f (l ++ m) := List.map_append.symm
theorem ofC_nilmap : D.ofC (.map none) = .v (.map none) := rfl
theorem ofC_nilfunc : D.ofC .nilFunc = .v .nilFunc := rfl
theorem ofC_nilptr : D.ofC (.pointer none) = .v (.pointer none) := rfl
theorem lookD_s (z d : D) : lookD true z (some d) = .tup [d, .bool true] := by simp [lookD]
theorem lookD_n (z : D) : lookD true z none = .tup [z, .bool false] := by simp [lookD]
theorem lookD_fs (z d : D) : lookD false z (some d) = d := by simp [lookD]
theorem lookD_fn (z : D) : lookD false z none = z := by simp [lookD]
theorem mget_map {α : Type} (f : Int → D) (g : α → D) (hf : ∀ a b, keqD (f a) (f b) = some (decide (a = b))) (k : Int) : ∀ (l : List (Int × α)),
    mget (f k) (l.map fun x => (f x.1, g x.2)) = some ((l.find? fun x => decide (k = x.1)).map fun x => g x.2)
  | [] => rfl
  | x :: l => by
    simp only [List.map_cons, mget, hf, List.find?_cons]
    by_cases h : k = x.1
    · simp [h]
    · simp only [h, decide_false, mget_map f g hf k l]
theorem mput_map {α : Type} (f : Int → D) (g : α → D) (hf : ∀ a b, keqD (f a) (f b) = some (decide (a = b))) (k : Int) (y : α) : ∀ (l : List (Int × α)), (∀ x ∈ l, k ≠ x.1) →
    mput (f k) (g y) (l.map fun x => (f x.1, g x.2)) = some ((l ++ [(k, y)]).map fun x => (f x.1, g x.2))
  | [], _ => rfl
  | x :: l, h => by
    have h1 := h x (by simp)
    have ih := mput_map f g hf k y l fun z hz => h z (List.mem_cons_of_mem _ hz)
    simp only [List.map_cons, mput, hf, h1, decide_false, ih, Option.map_some, List.cons_append]

end

end Go.Proofs.Ytgccnkihonmlbaa

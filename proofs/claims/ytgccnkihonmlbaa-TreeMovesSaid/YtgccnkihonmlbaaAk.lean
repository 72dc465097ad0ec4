/- Own layer, part 20: results told with less; slices that grow. -/
import Derived.Test.YtgccnkihonmlbaaAj
namespace Go.Proofs.Ytgccnkihonmlbaa
open Go Go.RowKit
set_option linter.unusedSimpArgs false
set_option linter.unusedVariables false

/-- What one piece of data tells less than another. -/
def DLe (d d' : D) : Prop := ∀ M v, R M d' v → R M d v
theorem DLe.refl (d : D) : DLe d d := fun _ _ h => h
theorem DLe.of_eq {d d' : D} (h : d' = d) : DLe d d' := by subst h; exact DLe.refl _
theorem DLe.tok (sz : Nat) (rows : List (List D)) (t : Tok) : DLe (.sl sz rows .no) (.sl sz rows t) := by
  intro M v h
  simp only [R] at h ⊢
  obtain ⟨p, cap, h1, h2, h3, h4, _⟩ := h
  exact ⟨p, cap, h1, h2, h3, h4, trivial⟩
theorem DLe.nil (sz sz' : Nat) (t : Tok) : DLe (.sl sz [] .no) (.sl sz' [] t) := by
  intro M v h
  simp only [R] at h ⊢
  obtain ⟨p, cap, h1, h2, h3, h4, _⟩ := h
  exact ⟨p, cap, h1, h2, h3, fun h => absurd rfl h, trivial⟩

def DsLe : List D → List D → Prop
  | [], [] => True
  | d :: ds, e :: es => DLe d e ∧ DsLe ds es
  | _, _ => False
theorem DsLe.R {M : Mem} : ∀ {ds es : List D} {vs : List Value}, DsLe ds es → RAll M es vs → RAll M ds vs
  | [], [], _, _, h => h
  | d :: ds, e :: es, [], _, h => by simp [RAll] at h
  | d :: ds, e :: es, v :: vs, hl, h => by simp only [RAll] at h ⊢; exact ⟨hl.1 M v h.1, DsLe.R hl.2 h.2⟩
  | [], _ :: _, _, hl, _ => hl.elim
  | _ :: _, [], _, hl, _ => hl.elim
theorem DLe.tup {ds es : List D} (h : DsLe ds es) : DLe (.tup ds) (.tup es) := by
  intro M v hv
  simp only [Go.Proofs.Ytgccnkihonmlbaa.R] at hv ⊢
  obtain ⟨vs, e, hv⟩ := hv
  exact ⟨vs, e, h.R hv⟩
theorem DLe.ag {ds es : List D} (h : DsLe ds es) : DLe (.ag ds) (.ag es) := by
  intro M v hv
  simp only [Go.Proofs.Ytgccnkihonmlbaa.R] at hv ⊢
  obtain ⟨vs, e, hv⟩ := hv
  exact ⟨vs, e, h.R hv⟩

theorem EnvLe.refl (E : Env) : EnvLe E E := fun _ _ _ h => h
theorem EnvLe.cons {i : Nat} {d d' : D} {l l' : List (Nat × D)} (h : DLe d d') (hl : EnvLe (mk l) (mk l')) : EnvLe (mk ((i, d) :: l)) (mk ((i, d') :: l')) := by
  intro M j v hv
  simp only [mk] at hv ⊢
  split
  · rename_i e; rw [if_pos e] at hv; exact h M v hv
  · rename_i e; rw [if_neg e] at hv; exact hl M j v hv
theorem EnvLe.of_eq {E env : Env} (h : E = env) : EnvLe E env := by subst h; exact EnvLe.refl _

/-- What an environment holds at some places. -/
def EnvL (env : Env) : List (Nat × D) → Prop
  | [] => True
  | (i, d) :: l => env i = d ∧ EnvL env l
theorem EnvLe.of_l {l : List (Nat × D)} {env : Env} (h : EnvL env l) : EnvLe (mk l) env := by
  intro M i v hv
  have key : ∀ l, EnvL env l → Go.Proofs.Ytgccnkihonmlbaa.R M (mk l i) v := by
    intro l
    induction l with
    | nil => intro _; simp only [mk, Go.Proofs.Ytgccnkihonmlbaa.R]
    | cons x l ih =>
      intro hl
      simp only [mk]
      split
      · rename_i e; subst e; rw [← hl.1]; exact hv
      · exact ih hl.2
  exact key l h

def ResLe : Res → Res → Prop
  | .ret d, .ret d' => DLe d d'
  | .pan d, .pan d' => DLe d d'
  | _, _ => False

theorem ResLe.R {M : Mem} {r r' : Res} {e : Ending} (h : ResLe r r') (hr : ResR M r' e) : ResR M r e := by
  cases r with
  | ret d =>
    cases r' with
    | ret d' =>
      cases e with
      | returned v => exact h M v hr
      | panicked c => simp [ResR] at hr
      | outgrown => simp [ResR] at hr
    | pan d' => exact h.elim
  | pan d =>
    cases r' with
    | ret d' => exact h.elim
    | pan d' =>
      cases e with
      | returned v => simp [ResR] at hr
      | outgrown => simp [ResR] at hr
      | panicked c =>
        cases c with
        | nil => simp [ResR] at hr
        | cons a as =>
          cases as with
          | cons _ _ => simp [ResR] at hr
          | nil =>
            obtain ⟨v, h1, h2⟩ := hr
            exact ⟨v, h1, h M v h2⟩

section
variable {P : Program} {σ : Store} {r : Option Nat} {nt : Nat}

theorem ACall.le {f : Fn} {args : List D} {Q : Res → Store → Prop} (h : ACall P f args σ fun r σ' => ∃ r', ResLe r' r ∧ Q r' σ') : ACall P f args σ Q :=
  fun M w vs hc hr => (h M w vs hc hr).mono fun _ _ ⟨M', σ', _, h1, h2, h3, r', h4, h5⟩ => ⟨M', σ', r', h1, h2, h4.R h3, h5⟩
theorem PCall.le {f : Fn} {args : List D} {d : D} (h : ACall P f args [] fun r σ' => ∃ d', r = .ret d' ∧ DLe d d' ∧ σ' = []) : PCall P f args d :=
  ACall.le (h.mono fun r σ' ⟨d', h1, h2, h3⟩ => ⟨.ret d, by subst h1; exact h2, rfl, h3⟩)
theorem retL {rs : List ResultVar} {d : D} {env : Env} (h : (resD P σ env rs).1 ∧ DLe d (resD P σ env rs).2) : retQ P rs (fun r σ' => ∃ d', r = .ret d' ∧ DLe d d' ∧ σ' = []) .ret env σ := ⟨h.1, [], by simp, _, rfl, h.2, rfl⟩
theorem retE {rs : List ResultVar} {d : D} {env : Env} (h : (resD P σ env rs).1 ∧ (resD P σ env rs).2 = d) : retQ P rs (fun r σ' => ∃ d', r = .ret d' ∧ DLe d d' ∧ σ' = []) .ret env σ := retL ⟨h.1, DLe.of_eq h.2⟩
theorem retLn {rs : List ResultVar} {d : D} {env : Env} (h : (resD P σ env rs).1 ∧ DLe d (resD P σ env rs).2) : retQ P rs (fun r σ' => ∃ d', r = .ret d' ∧ DLe d d' ∧ σ' = []) .normal env σ := ⟨h.1, [], by simp, _, rfl, h.2, rfl⟩
theorem retEn {rs : List ResultVar} {d : D} {env : Env} (h : (resD P σ env rs).1 ∧ (resD P σ env rs).2 = d) : retQ P rs (fun r σ' => ∃ d', r = .ret d' ∧ DLe d d' ∧ σ' = []) .normal env σ := retLn ⟨h.1, DLe.of_eq h.2⟩

/-- A condition that is known. -/
theorem cdt {c : Operand} {x y : Code} {env : Env} {Q : AE → Env → Store → Prop} (hb : opd env c = .bool true) (h : AWp P r nt x env σ Q) : AWp P r nt (.cond c x y) env σ Q :=
  cd hb (fun _ => h) (fun e => by cases e)
theorem cdf {c : Operand} {x y : Code} {env : Env} {Q : AE → Env → Store → Prop} (hb : opd env c = .bool false) (h : AWp P r nt y env σ Q) : AWp P r nt (.cond c x y) env σ Q :=
  cd hb (fun e => by cases e) (fun _ => h)

/-- A condition with what both ways come to. -/
theorem sqj {x y : Code} (J : Env → Store → Prop) {env : Env} {Q : AE → Env → Store → Prop} (h : AWp P r nt x env σ (thenQ J Q)) (h2 : ∀ env σ, J env σ → AWp P r nt y env σ Q) : AWp P r nt (.seq x y) env σ Q := by
  refine sq (h.mono fun e env' σ' hq => ?_)
  cases e with
  | normal => exact h2 _ _ hq
  | _ => exact hq

/-! ### Freezing at a region's end -/
theorem frzE_cons (ts : List Nat) (b : Nat) (cs : List D) (i : Nat) (d : D) (l : List (Nat × D)) : frzE ts b cs (mk ((i, d) :: l)) = fun j => if j = i then (bif ts.contains i then frz b cs d else d) else frzE ts b cs (mk l) j := by
  funext j
  simp only [frzE, mk]
  split
  · rename_i e; subst e; rfl
  · rfl
def inL : List Nat → Nat → Prop
  | [], _ => False
  | t :: ts, i => i = t ∨ inL ts i
instance inL_dec : ∀ (ts : List Nat) (i : Nat), Decidable (inL ts i)
  | [], _ => isFalse (fun h => h)
  | t :: ts, i => match decEq i t, inL_dec ts i with
    | isTrue h, _ => isTrue (.inl h)
    | isFalse _, isTrue h => isTrue (.inr h)
    | isFalse h, isFalse h' => isFalse (fun e => e.elim h h')
theorem inL_contains : ∀ (ts : List Nat) (i : Nat), inL ts i ↔ ts.contains i = true
  | [], i => by simp [inL]
  | t :: ts, i => by simp only [inL, List.contains_cons, Bool.or_eq_true, beq_iff_eq, inL_contains ts i]
/-- An environment's entries, turned. -/
def frzL (ts : List Nat) (b : Nat) (cs : List D) : List (Nat × D) → List (Nat × D)
  | [] => []
  | (i, d) :: l => (i, if inL ts i then frz b cs d else d) :: frzL ts b cs l
theorem frzE_mk (ts : List Nat) (b : Nat) (cs : List D) : ∀ l : List (Nat × D), frzE ts b cs (mk l) = mk (frzL ts b cs l)
  | [] => by funext j; simp only [frzE, mk, frzL, frz]; cases ts.contains j <;> rfl
  | (i, d) :: l => by
    rw [frzE_cons, frzE_mk ts b cs l]
    funext j
    simp only [frzL, mk]
    by_cases e : j = i
    · rw [if_pos e, if_pos e]
      by_cases h : inL ts i
      · rw [if_pos h, (inL_contains ts i).1 h]; rfl
      · rw [if_neg h]
        cases hc : ts.contains i with
        | true => exact absurd ((inL_contains ts i).2 hc) h
        | false => rfl
    · rw [if_neg e, if_neg e]

/-- Boxes that stay as they are from here on. -/
def FZ (K : Env → Store → Prop) : List (Nat × List Nat) → Env → Store → Prop
  | [], env, σ => K env σ
  | (t, ts) :: l, env, σ => match env t with
    | .ptr b 0 => match σ.get b with
      | some (.cells cs) => FZ K l (frzE (t :: ts) b cs env) (σ.del b)
      | _ => False
    | _ => False

theorem frz_conc {M : Mem} {w : World} {a : Act} {env : Env} {b : Nat} {cs : List D} (ts : List Nat) (hc : Conc M w σ) (he : EnvR M nt env a) (hg : σ.get b = some (.cells cs)) :
    ∃ M', Conc M' w (σ.del b) ∧ Step M w σ M' w (σ.del b) ∧ EnvR M' nt (frzE ts b cs env) a := by
  obtain ⟨⟨vs, T, hh, hr, hcell⟩, hm⟩ := hc.box b _ (Store.mem_of_get hg)
  have hbk : b ∈ σ.keys := Store.get_mem hg
  let M' : Mem := fun b' o => if b' = b then vs[o]? else M b' o
  have hle : Mem.le M M' := fun b' o x hx => by
    show (if b' = b then _ else _) = _
    rw [if_neg (fun e => by subst e; rw [hm] at hx; cases hx)]
    exact hx
  have hM' : ∀ i v, vs[i]? = some v → M' b (0 + i) = some v := fun i v hv => by
    show (if b = b then _ else _) = _
    rw [if_pos rfl, Nat.zero_add]; exact hv
  have hcells : RCells M' cs b 0 := RCells_of M' b 0 (hr.mono hle) hM'
  have hdel := Store.del_sublist σ b
  have hnot := Store.del_mem (c := b) hc.nodup
  refine ⟨M', ⟨fun b' o x hx => ?_, hc.nodup.sublist (hdel.map Prod.fst), fun b' y hy => ?_⟩, ⟨hle, rfl, rfl, rfl, Nat.le_refl _, fun _ _ _ => rfl, fun b' hb' => .inl ((hdel.map Prod.fst).subset hb'), fun b' o x hx => ?_⟩, he.1, fun i => ?_⟩
  · have hx' : (if b' = b then vs[o]? else M b' o) = some x := hx
    split at hx'
    · rename_i e; subst e
      simp only [World.cell?, hh]
      simpa using hx'
    · exact hc.mem b' o x hx'
  · refine (hc.box b' y (hdel.subset hy)).mono hle (fun o v hv => ?_) rfl
    have hne : b' ≠ b := fun e => hnot (e ▸ List.mem_map_of_mem (f := Prod.fst) hy)
    have hv' : (if b' = b then vs[o]? else M b' o) = some v := hv
    rwa [if_neg hne] at hv'
  · have hx' : (if b' = b then vs[o]? else M b' o) = some x := hx
    split at hx'
    · rename_i e; exact .inr (.inr (e ▸ hbk))
    · exact .inl hx'
  · unfold frzE
    cases ts.contains i with
    | true => exact R_frz hle hcells (he.2 i)
    | false => exact (he.2 i).mono hle

theorem FZ_sound {K : Env → Store → Prop} {a : Act} {w : World} : ∀ (l : List (Nat × List Nat)) {M : Mem} {σ : Store} {env : Env}, Conc M w σ → EnvR M nt env a → FZ K l env σ →
    ∃ M' env' σ', Conc M' w σ' ∧ Step M w σ M' w σ' ∧ EnvR M' nt env' a ∧ K env' σ'
  | [], M, σ, env, hc, he, h => ⟨M, env, σ, hc, Step.refl _ _ _, he, h⟩
  | (t, ts) :: l, M, σ, env, hc, he, h => by
    unfold FZ at h
    split at h
    · split at h
      · rename_i cs hg
        obtain ⟨M1, c1, s1, e1⟩ := frz_conc (t :: ts) hc he hg
        obtain ⟨M2, env2, σ2, c2, s2, e2, k2⟩ := FZ_sound l c1 e1 h
        exact ⟨M2, env2, σ2, c2, s1.trans s2, e2, k2⟩
      · exact h.elim
    · exact h.elim

theorem AWp.fz (l : List (Nat × List Nat)) {c : Code} {env : Env} {Q : AE → Env → Store → Prop} (h : AWp P r nt c env σ (thenQ (fun env σ => FZ (fun env σ => Q .normal env σ) l env σ) Q)) : AWp P r nt c env σ Q := by
  intro M w a B hc he hd
  refine wpIn_mono (h M w a B hc he hd) ?_
  rintro e a' w' ⟨M2, env2, σ2, ae, h1, h2, h3, h4, h5, h6⟩
  cases ae with
  | normal =>
    obtain ⟨M3, env3, σ3, c3, s3, e3, k3⟩ := FZ_sound l h2 h3 h6
    refine ⟨M3, env3, σ3, .normal, h1.trans s3, c3, e3, h4.step s3, ?_, k3⟩
    cases e <;> simp only [AER] at h5 ⊢
  | exit i => exact ⟨M2, env2, σ2, .exit i, h1, h2, h3, h4, h5, h6⟩
  | goto i => exact ⟨M2, env2, σ2, .goto i, h1, h2, h3, h4, h5, h6⟩
  | ret => exact ⟨M2, env2, σ2, .ret, h1, h2, h3, h4, h5, h6⟩
  | pan d => exact ⟨M2, env2, σ2, .pan d, h1, h2, h3, h4, h5, h6⟩

/-- A region at whose end boxes are frozen. -/
theorem rgz (fzl : List (Nat × List Nat)) (keep imm : List Nat) (gt : List (Nat × Nat)) {id : Nat} {l : List Oper} {env : Env} {Q : AE → Env → Store → Prop} (hok : rgOK nt l.toArray gt = true)
    (h : ∀ (κ : Env → Store → Prop) (ξ : D → Store → Prop), (∀ env σ, Q .normal env σ → κ env σ) → (∀ d σ, Q (.pan d) (fun _ => .top) σ → ξ d σ) → vops P imm gt (fun env σ => FZ κ fzl (prune keep env) σ) ξ l env σ) : AWp P r nt (.region id l.toArray false) env σ Q := by
  refine AWp.fz fzl ?_
  intro M w a B hc he hd
  refine wpIn_region ?_
  simp only [rgOK, Bool.and_eq_true] at hok
  have := vops_sound (P := P) (r := r) (imm := imm) (ops := l.toArray) (Q := thenQ (fun env σ => FZ (fun env σ => Q .normal env σ) fzl env σ) Q) (GT.of hok.2) keep l 0 (by simp) (by simpa using hok.1) env σ M w a
    (h (fun env σ => Q .normal env σ) (fun d σ => Q (.pan d) (fun _ => .top) σ) (fun _ _ h => h) (fun _ _ h => h)) hc he hd rfl (Step.refl _ _ _)
  rw [List.range_eq_range', show l.toArray.size = l.length from by simp]
  exact this

theorem nk_cons (b c : Nat) (x : Box) (σ : Store) : (b ∈ Store.keys ((c, x) :: σ)) = (c = b ∨ b ∈ Store.keys σ) := by
  simp only [Store.keys, List.map_cons, List.mem_cons, eq_comm]

def plsF (sz : Nat) : Nat → Nat → List (Nat × Nat)
  | 0, _ => []
  | n + 1, off => (off, sz) :: plsF sz n (off + sz)
theorem pls_eq (sz len : Nat) : pls sz len = plsF sz len 0 := by
  have key : ∀ n k, (List.range' k n).map (fun i => (i * sz, sz)) = plsF sz n (k * sz) := by
    intro n
    induction n with
    | zero => intro k; rfl
    | succ n ih =>
      intro k
      simp only [List.range'_succ, List.map_cons, plsF]
      rw [ih (k + 1), Nat.add_mul, Nat.one_mul]
  have := key len 0
  rw [Nat.zero_mul] at this
  unfold pls
  rw [List.range_eq_range']
  exact this

/-! ### Slices that grow -/
def apD (sz : Nat) (rows : List (List D)) : Option (Nat × Nat) → D
  | none => .sl 0 [] .nil
  | some (b, c) => .sl sz rows (.own b c)
def apS (sz n : Nat) : Option (Nat × Nat) → Store
  | none => []
  | some (b, c) => [(b, .tail sz n c)]
/-- Nothing has been put into what is nil. -/
def apOK (rows : List (List D)) (o : Option (Nat × Nat)) : Prop := o = none → rows = []

/-- It is none of the other boxes. -/
def apFr (o : Option (Nat × Nat)) (ρ : Store) : Prop := ∀ b c, o = some (b, c) → b ∉ ρ.keys
theorem apFr_nil (o : Option (Nat × Nat)) : apFr o [] := fun _ _ _ => by simp [Store.keys]
theorem apFr_none (ρ : Store) : apFr none ρ := fun _ _ h => by cases h
theorem apFr_some {b c : Nat} {ρ : Store} (h : b ∉ ρ.keys) : apFr (some (b, c)) ρ := fun _ _ e => by cases e; exact h

theorem apD_le (sz : Nat) {rows : List (List D)} {o : Option (Nat × Nat)} (h : apOK rows o) : DLe (.sl sz rows .no) (apD sz rows o) := by
  cases o with
  | none => rw [h rfl]; exact DLe.nil _ _ _
  | some x => exact DLe.tok _ _ _

theorem napp_grow {ts : Array TypeId} {T U V : TypeId} {g : Bool} {sz by_ : Nat} {z : List D} {rows new : List (List D)} {o : Option (Nat × Nat)} {ρ : Store} {tk : Tok} {K : D → Store → Prop}
    (hok : apOK rows o) (hfr : apFr o ρ) (hT : ts[0]? = some T) (hV : ts[1]? = some V) (hV' : (sle P V).isSome = true) (hs : sle P T = some (U, g, sz)) (hy : eby P T = some by_) (hz : zc P U = some z)
    (hside : (z.length = sz ∧ 0 < sz ∧ 0 < by_) ∧ new.all (·.all D.isCell) = true ∧ new ≠ [] ∧ (rows.length + new.length) * by_ ≤ capB)
    (hK : ∀ b c, b ∉ ρ.keys → K (apD sz (rows ++ new) (some (b, c))) (apS sz (rows.length + new.length) (some (b, c)) ++ ρ)) :
    napp P (apS sz rows.length o ++ ρ) ts (apD sz rows o) (.sl sz new tk) K := by
  obtain ⟨⟨h1, h2, h3⟩, h4, h5, h6⟩ := hside
  unfold napp
  cases o with
  | none =>
    have hr := hok rfl
    subst hr
    simp only [hT, hV, hs, hy, hz, apD, apS, rowsOf, Option.bind_some, List.nil_append]
    refine ⟨⟨⟨z, rfl, h1⟩, ⟨V, rfl, .inl hV'⟩, h2, h3, .inl trivial, .inr trivial, h4, h6⟩, fun e => absurd e h5, fun _ b c hb => ?_⟩
    have := hK b c hb
    simpa [apD, apS] using this
  | some x =>
    obtain ⟨b, c⟩ := x
    simp only [hT, hV, hs, hy, hz, apD, apS, rowsOf, Option.bind_some, List.cons_append, List.nil_append]
    refine ⟨⟨⟨z, rfl, h1⟩, ⟨V, rfl, .inl hV'⟩, h2, h3, .inr trivial, .inr trivial, h4, h6⟩, ⟨trivial, by simp [Store.get]⟩, fun b' c' hb' => ?_⟩
    have hren : Store.ren ((b, Box.tail sz rows.length c) :: ρ) b b' (.tail sz (rows.length + new.length) c') = (b', .tail sz (rows.length + new.length) c') :: ρ := by simp [Store.ren]
    rw [hren]
    have hb2 : b' ∉ ρ.keys := by
      rcases hb' with rfl | hb'
      · exact hfr b' c rfl
      · simp only [Store.keys, List.map_cons, List.mem_cons, not_or] at hb'
        exact hb'.2
    have := hK b' c' hb2
    simpa [apD, apS] using this

theorem napp_grow0 {ts : Array TypeId} {T U V : TypeId} {g : Bool} {sz by_ : Nat} {z : List D} {rows new : List (List D)} {o : Option (Nat × Nat)} {tk : Tok} {n : Nat} {K : D → Store → Prop}
    (hok : apOK rows o) (hn : rows.length = n) (hT : ts[0]? = some T) (hV : ts[1]? = some V) (hV' : (sle P V).isSome = true) (hs : sle P T = some (U, g, sz)) (hy : eby P T = some by_) (hz : zc P U = some z)
    (hside : (z.length = sz ∧ 0 < sz ∧ 0 < by_) ∧ new.all (·.all D.isCell) = true ∧ new ≠ [] ∧ (n + new.length) * by_ ≤ capB)
    (hK : ∀ b c, K (apD sz (rows ++ new) (some (b, c))) (apS sz (n + new.length) (some (b, c)))) :
    napp P (apS sz n o) ts (apD sz rows o) (.sl sz new tk) K   := by
  subst hn
  have := napp_grow (P := P) (K := K) (tk := tk) (ρ := []) hok (apFr_nil o) hT hV hV' hs hy hz hside (fun b c _ => by simpa using hK b c)
  simpa using this

/-! ### How a region in whatever order is evaluated -/
section
variable {imm soft : List Nat} {gt : List (Nat × Nat)} {κ : Env → Store → Prop} {X : D → Store → Prop}

def dK (P : Program) (imm soft : List Nat) (gt : List (Nat × Nat)) (κ : Env → Store → Prop) (X : D → Store → Prop) (os : List Oper) (env : Env) (dst : Option Nat) : D → Store → Prop :=
  fun d σ' => vdr P imm soft gt κ X os (env.put dst d) σ'
def eK (P : Program) (imm soft : List Nat) (gt : List (Nat × Nat)) (κ : Env → Store → Prop) (X : D → Store → Prop) (os : List Oper) (env : Env) (dst : Option Nat) (σ : Store) : D → Store → Prop :=
  fun d σ' => Ext σ σ' ∧ vdr P imm soft gt κ X os (env.put dst d) σ'
/-- A call that only computes. -/
def PCallD (P : Program) (f : D) (xs : List D) (d : D) : Prop :=
  match f with
  | .fn fn fs cs => (isYield fn = true → cs = []) ∧ PCall P fn (fs ++ xs ++ cs) d
  | _ => False
def SCallK (P : Program) (f : D) (xs : List D) (K : D → Store → Prop) (σ : Store) : Prop := ∃ d, PCallD P f xs d ∧ K d σ

theorem Ext_refl (σ : Store) : Ext σ σ = True := eq_true (Ext.refl σ)
theorem Ext_cons {b : Nat} {x : Box} (h : b ∉ Store.keys σ) : Ext σ ((b, x) :: σ) := by
  intro c y hy
  refine .inr ?_
  unfold Store.get
  rw [if_neg (fun e : c = b => h (by rw [← e]; exact Store.get_mem hy))]
  exact hy
theorem Ext_tail {b b' s n c s' n' c' : Nat} (h : b' ∉ Store.keys σ) : Ext ((b, .tail s n c) :: σ) ((b', .tail s' n' c') :: σ) := by
  intro d y hy
  unfold Store.get at hy
  split at hy
  · cases hy; exact .inl rfl
  · refine .inr ?_
    unfold Store.get
    rw [if_neg (fun e : d = b' => h (by rw [← e]; exact Store.get_mem hy))]
    exact hy

theorem vd_nil (env : Env) : vdr P imm soft gt κ X [] env σ = κ env σ := rfl
theorem dK_eq (os : List Oper) (env : Env) (dst : Option Nat) (d : D) : dK P imm soft gt κ X os env dst d σ = vdr P imm soft gt κ X os (env.put dst d) σ := rfl
theorem eK_eq (os : List Oper) (env : Env) (dst : Option Nat) (d : D) (σ' : Store) : eK P imm soft gt κ X os env dst σ d σ' = (Ext σ σ' ∧ vdr P imm soft gt κ X os (env.put dst d) σ') := rfl
theorem softC_quiet {dst : Option Nat} {op : Op} {T : TypeId} {pos : String} {aft : Array Edge} {g : Option (Nat × Bool)} (h : quiet op = true) : softC soft ⟨dst, op, T, pos, aft, g⟩ = false := by
  unfold softC
  split
  · rename_i h1 h2; simp only at h1; rw [h1] at h; simp [quiet] at h
  · rfl
theorem vd_q {dst : Option Nat} {op : Op} {T : TypeId} {pos : String} {aft : Array Edge} {os : List Oper} {env : Env} (h : quiet op = true) :
    vdr P imm soft gt κ X (⟨dst, op, T, pos, aft, none⟩ :: os) env σ = ((qev P σ (opd env) op).1 ∧ vdr P imm soft gt κ X os (env.put dst (qev P σ (opd env) op).2) σ) := by
  simp only [vdr, softC_quiet h, cond_false]
  unfold vop
  simp only [h, cond_true, qv, Ext_refl, or_true, true_and]
theorem vd_g {dst : Option Nat} {op : Op} {T : TypeId} {pos : String} {aft : Array Edge} {os : List Oper} {env : Env} {j : Nat} {want : Bool} (h : quiet op = true) :
    vdr P imm soft gt κ X (⟨dst, op, T, pos, aft, some (j, want)⟩ :: os) env σ = (((gq gt env j want).isSome = true ∧ (gof (gq gt env j want) = true → (gev P σ env op).1)) ∧
      vdr P imm soft gt κ X os (env.put dst (.cnd (gof (gq gt env j want)) (gev P σ env op).2)) σ) := by
  simp only [vdr, softC_quiet h, cond_false]
  unfold vop
  simp only [h, cond_true, qv, Ext_refl, or_true, true_and]
  unfold gq
  cases e : ((look gt j).bind fun t => gval (env t) want) with
  | none => simp [PD.no]
  | some g => simp [gof]
theorem vd_c {t : Nat} {f : Operand} {xs : Array Operand} {ts : Array TypeId} {T : TypeId} {pos : String} {aft : Array Edge} {os : List Oper} {env : Env} :
    vdr P imm soft gt κ X (⟨some t, .call ⟨.value f, xs, ts⟩, T, pos, aft, none⟩ :: os) env σ =
      bif soft.contains t then SCallK P (opd env f) (xs.toList.map (opd env)) (dK P imm soft gt κ X os env (some t)) σ else CallK P (opd env f) (xs.toList.map (opd env)) (eK P imm soft gt κ X os env (some t) σ) X σ := by
  simp only [vdr, softC]
  cases soft.contains t with
  | true =>
    simp only [cond_true, pv, PCallOp, SCallK, PCallD]
    cases opd env f <;> rfl
  | false =>
    simp only [cond_false]
    unfold vop
    simp only [quiet, cond_false, nv, isSt, Bool.false_eq_true, false_or]
    rfl
theorem vd_n {dst : Option Nat} {op : Op} {T : TypeId} {pos : String} {aft : Array Edge} {os : List Oper} {env : Env} (hn : nqk op = true) :
    vdr P imm soft gt κ X (⟨dst, op, T, pos, aft, none⟩ :: os) env σ = nev P (isImm imm dst) σ (opd env) (eK P imm soft gt κ X os env dst σ) X op := by
  obtain ⟨h, hc, hst⟩ := nqk_spec hn
  have hs : softC soft ⟨dst, op, T, pos, aft, none⟩ = false := by
    unfold softC
    split
    · rename_i h1 h2; simp only at h1; rw [h1] at hc; simp [isCall] at hc
    · rfl
  simp only [vdr, hs, cond_false]
  unfold vop
  simp only [h, cond_false, nv, hst, Bool.false_eq_true, false_or]
  rfl
/-- What is written to is not looked at afterwards. -/
theorem vd_st {dst : Option Nat} {op : Op} {T : TypeId} {pos : String} {aft : Array Edge} {os : List Oper} {env : Env} (hst : isSt op = true) :
    vdr P imm soft gt κ X (⟨dst, op, T, pos, aft, none⟩ :: os) env σ = nev P (isImm imm dst) σ (opd env) (dK P imm soft gt κ X os env dst) X op := by
  have hq : quiet op = false := by cases op <;> first | rfl | (simp [isSt] at hst)
  have hs : softC soft ⟨dst, op, T, pos, aft, none⟩ = false := by
    unfold softC
    split
    · rename_i h1 h2; simp only at h1; rw [h1] at hst; simp [isSt] at hst
    · rfl
  simp only [vdr, hs, cond_false]
  unfold vop
  simp only [hq, cond_false, nv, hst, true_or, true_and]
  rfl
theorem vd_gc {t : Nat} {f : Operand} {xs : Array Operand} {ts : Array TypeId} {T : TypeId} {pos : String} {aft : Array Edge} {os : List Oper} {env : Env} {j : Nat} {want : Bool} (hs : soft.contains t = true)
    (h : GCallK P (gq gt env j want) (cgs env (.call ⟨.value f, xs, ts⟩)) (opc env f) (xs.toList.map (opc env)) (dK P imm soft gt κ X os env (some t)) σ) :
    vdr P imm soft gt κ X (⟨some t, .call ⟨.value f, xs, ts⟩, T, pos, aft, some (j, want)⟩ :: os) env σ := by
  obtain ⟨b, hb, d, h1, h2⟩ := h
  simp only [vdr, softC, hs, cond_true, pv]
  unfold gq at hb
  simp only [hb]
  refine ⟨d, fun e => ?_, h2⟩
  obtain ⟨h3, h4⟩ := h1 e
  refine ⟨h3, ?_⟩
  simp only [PCallOp]
  revert h4
  cases opc env f <;> exact id

theorem cgs_call {f : Operand} {xs : Array Operand} {ts : Array TypeId} {env : Env} : cgs env (.call ⟨.value f, xs, ts⟩) = ((opd env f).cg && xs.toList.all fun x => (opd env x).cg) := by
  unfold cgs
  simp [Op.operands, Call.operands]
theorem cgs_builtin {b : Builtin} {xs : Array Operand} {ts : Array TypeId} {env : Env} : cgs env (.call ⟨.builtin b, xs, ts⟩) = xs.toList.all fun x => (opd env x).cg := by
  unfold cgs
  simp [Op.operands, Call.operands]

theorem gcallN {ok : Bool} {f : D} {xs : List D} {K : D → Store → Prop} (hk : K (.cnd false .top) σ) : GCallK P (some false) ok f xs K σ :=
  ⟨false, rfl, .top, ⟨fun e => (by cases e), hk⟩⟩

theorem scallF {g : Nat} {xs : List D} {d : D} {K : D → Store → Prop} (h : PCall P (.func g) xs d) (hk : K d σ) : SCallK P (.fn (.func g) [] []) xs K σ :=
  ⟨d, ⟨fun e => by simp [isYield] at e, by simpa using h⟩, hk⟩
end

end

end Go.Proofs.Ytgccnkihonmlbaa

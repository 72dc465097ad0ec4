/- Own layer, part 16: the rules for code, loops, and a function's entry. -/
import Derived.Test.YtgccnkihonmlbaaAf
import Derived.RangeFuncLeaves
import Derived.RangeFuncRecord
namespace Go.Proofs.Ytgccnkihonmlbaa
open Go Go.RowKit
set_option linter.unusedSimpArgs false
set_option linter.unusedVariables false

section
variable {P : Program} {M : Mem} {w : World} {σ : Store} {r : Option Nat} {nt : Nat}

theorem rgPost.trans {M' : Mem} {w' : World} {σ' : Store} {B : Nat} {Q : AE → Env → Store → Prop} (s : Step M w σ M' w' σ') : ∀ (e : Exit) (a : Act) (w'' : World), rgPost M' w' σ' nt B Q e a w'' → rgPost M w σ nt B Q e a w'' :=
  fun _ _ _ ⟨M2, env2, σ2, ae, h1, h2⟩ => ⟨M2, env2, σ2, ae, s.trans h1, h2⟩

theorem AWp.mono {c : Code} {env : Env} {Q Q' : AE → Env → Store → Prop} (h : AWp P r nt c env σ Q) (hq : ∀ e env' σ', Q e env' σ' → Q' e env' σ') : AWp P r nt c env σ Q' :=
  fun M w a B hc he hd => wpIn_mono (h M w a B hc he hd) fun _ _ _ ⟨M2, env2, σ2, ae, h1, h2, h3, h4, h5, h6⟩ => ⟨M2, env2, σ2, ae, h1, h2, h3, h4, h5, hq _ _ _ h6⟩

theorem rgPost.here {B : Nat} {Q : AE → Env → Store → Prop} {a : Act} {env : Env} (hc : Conc M w σ) (he : EnvR M nt env a) (hd : DefOK B σ w a.defers) {ae : AE} {e : Exit} (h : AER M ae e) (hq : Q ae env σ) : rgPost M w σ nt B Q e a w :=
  ⟨M, env, σ, ae, Step.refl _ _ _, hc, he, hd, h, hq⟩

theorem sk {env : Env} {Q : AE → Env → Store → Prop} (h : Q .normal env σ) : AWp P r nt .skip env σ Q :=
  fun _ _ _ _ hc he hd => wpIn_skip (rgPost.here hc he hd (ae := .normal) trivial h)
theorem rt {env : Env} {Q : AE → Env → Store → Prop} (h : Q .ret env σ) : AWp P r nt .ret env σ Q :=
  fun _ _ _ _ hc he hd => wpIn_ret (rgPost.here hc he hd (ae := .ret) trivial h)
theorem ex {id : Nat} {env : Env} {Q : AE → Env → Store → Prop} (h : Q (.exit id) env σ) : AWp P r nt (.exit id) env σ Q :=
  fun _ _ _ _ hc he hd => wpIn_exit (rgPost.here hc he hd (ae := .exit id) rfl h)

def thenQ (K : Env → Store → Prop) (Q : AE → Env → Store → Prop) : AE → Env → Store → Prop
  | .normal, env, σ => K env σ
  | e, env, σ => Q e env σ

theorem sq {x y : Code} {env : Env} {Q : AE → Env → Store → Prop} (h : AWp P r nt x env σ (thenQ (fun env σ => AWp P r nt y env σ Q) Q)) : AWp P r nt (.seq x y) env σ Q := by
  intro M w a B hc he hd
  refine wpIn_seq (wpIn_mono (h M w a B hc he hd) ?_)
  rintro e a' w' ⟨M2, env2, σ2, ae, h1, h2, h3, h4, h5, h6⟩
  cases e with
  | normal =>
    cases ae <;> simp only [AER] at h5
    exact wpIn_mono (h6 M2 w' a' B h2 h3 h4) (rgPost.trans h1)
  | exit i => cases ae <;> simp only [AER] at h5; exact ⟨M2, env2, σ2, .exit _, h1, h2, h3, h4, h5, h6⟩
  | goto i => cases ae <;> simp only [AER] at h5; exact ⟨M2, env2, σ2, .goto _, h1, h2, h3, h4, h5, h6⟩
  | ret => cases ae <;> simp only [AER] at h5; exact ⟨M2, env2, σ2, .ret, h1, h2, h3, h4, trivial, h6⟩
  | panic c =>
    have h5' := h5
    cases ae <;> simp only [AER] at h5
    exact ⟨M2, env2, σ2, .pan _, h1, h2, h3, h4, h5', h6⟩
  | outgrown => cases ae <;> simp only [AER] at h5

theorem cd {c : Operand} {x y : Code} {env : Env} {Q : AE → Env → Store → Prop} {b : Bool} (hb : opd env c = .bool b) (ht : b = true → AWp P r nt x env σ Q) (hf : b = false → AWp P r nt y env σ Q) : AWp P r nt (.cond c x y) env σ Q := by
  intro M w a B hc he hd
  have hr := opd_R he c
  rw [hb] at hr
  simp only [R] at hr
  exact wpIn_cond_split hr (fun e => ht e M w a B hc he hd) (fun e => hf e M w a B hc he hd)

def blockQ (id : Nat) (Q : AE → Env → Store → Prop) : AE → Env → Store → Prop
  | .exit i, env, σ => if i = id then Q .normal env σ else Q (.exit i) env σ
  | e, env, σ => Q e env σ

theorem bl {id : Nat} {c : Code} {env : Env} {Q : AE → Env → Store → Prop} (h : AWp P r nt c env σ (blockQ id Q)) : AWp P r nt (.block id c) env σ Q := by
  intro M w a B hc he hd
  refine wpIn_block (wpIn_mono (h M w a B hc he hd) ?_)
  rintro e a' w' ⟨M2, env2, σ2, ae, h1, h2, h3, h4, h5, h6⟩
  cases e with
  | normal => cases ae <;> simp only [AER] at h5; exact ⟨M2, env2, σ2, .normal, h1, h2, h3, h4, trivial, h6⟩
  | exit i =>
    cases ae <;> simp only [AER] at h5
    subst h5
    simp only [Exit.inBlock, blockQ] at h6 ⊢
    split
    · rename_i e; rw [if_pos e] at h6; exact ⟨M2, env2, σ2, .normal, h1, h2, h3, h4, trivial, h6⟩
    · rename_i e; rw [if_neg e] at h6; exact ⟨M2, env2, σ2, .exit _, h1, h2, h3, h4, rfl, h6⟩
  | goto i => cases ae <;> simp only [AER] at h5; exact ⟨M2, env2, σ2, .goto _, h1, h2, h3, h4, h5, h6⟩
  | ret => cases ae <;> simp only [AER] at h5; exact ⟨M2, env2, σ2, .ret, h1, h2, h3, h4, trivial, h6⟩
  | panic c =>
    have h5' := h5
    cases ae <;> simp only [AER] at h5
    exact ⟨M2, env2, σ2, .pan _, h1, h2, h3, h4, h5', h6⟩
  | outgrown => cases ae <;> simp only [AER] at h5

theorem wpIn_loop_ghost {F : Fence} {n : Nat} {Q : Exit → Act → World → Prop} {a : Act} {c : Code} (I : Nat → Act → World → Prop) (m : Nat) (h₀ : I m a w)
    (round : ∀ m a w, I m a w → c.wpIn F n P (Exit.then (fun a' w' => ∃ m', m' < m ∧ I m' a' w') Q) a w) : (Code.loop c).wpIn F n P Q a w := by
  intro b k cs hro hb hr
  have key : ∀ m a w, I m a w →
      ∃ e a' w', Q e a' w' ∧ ArrivesIn (Machine.fenced P F) P (lone (b.atR a (.code c :: .inLoop c :: k)) cs w) b k cs e a' w' := by
    intro m
    induction m using Nat.strongRecOn with
    | _ m ih =>
      intro a w hI
      obtain ⟨e, a₁, w₁, hq, harr⟩ := round m a w hI b (.inLoop c :: k) cs hro hb hr
      cases e with
      | normal =>
        obtain ⟨m', hlt, hI₁⟩ := hq
        obtain ⟨e₂, a₂, w₂, hq₂, harr₂⟩ := ih m' hlt a₁ w₁ hI₁
        exact ⟨e₂, a₂, w₂, hq₂, .of_steps (StepsIn.trans harr (.one (fenced_calm hb hr rfl) stepR_inLoop)) harr₂⟩
      | exit id => exact ⟨_, a₁, w₁, hq, .pass (x := .inLoop c) rfl (fun _ _ => .inl (by simp)) harr⟩
      | goto l => exact ⟨_, a₁, w₁, hq, .pass (x := .inLoop c) rfl (fun _ _ => .inl (by simp)) harr⟩
      | ret => exact ⟨_, a₁, w₁, hq, .pass (x := .inLoop c) rfl (fun _ _ => .inl (by simp)) harr⟩
      | panic ch => exact ⟨_, a₁, w₁, hq, .pass (x := .inLoop c) rfl (fun _ _ => .inl (by simp)) harr⟩
      | outgrown => exact ⟨_, a₁, w₁, hq, .pass (x := .inLoop c) rfl (fun _ _ => .inl (by simp)) harr⟩
  obtain ⟨e, a', w', hq, harr⟩ := key _ a w h₀
  exact ⟨e, a', w', hq, .of_steps (.one (fenced_calm hb hr rfl) stepR_loop) harr⟩

/-- What one environment tells less than another. -/
def EnvLe (E env : Env) : Prop := ∀ M i v, R M (env i) v → R M (E i) v

theorem EnvLe.R {E env : Env} {a : Act} (h : EnvLe E env) (he : EnvR M nt env a) : EnvR M nt E a := ⟨he.1, fun i => h M i _ (he.2 i)⟩

/-- A LOOP: a family of states, of which the one at hand is one, each round leading to one of a lesser measure. -/
theorem lp {α : Type} (E : α → Env) (S : α → Store) (ok : α → Prop) (μ : α → Nat) (x0 : α) {c : Code} {env : Env} {Q : AE → Env → Store → Prop} (h0 : ok x0 ∧ EnvLe (E x0) env ∧ (S x0).Sublist σ)
    (h : ∀ x, ok x → AWp P r nt c (E x) (S x) (thenQ (fun env' σ' => ∃ y, (ok y ∧ μ y < μ x) ∧ EnvLe (E y) env' ∧ (S y).Sublist σ') Q)) : AWp P r nt (.loop c) env σ Q := by
  intro M w a B hc he hd
  obtain ⟨hok, hle, hsub⟩ := h0
  have hkeys : (S x0).keys.Sublist σ.keys := hsub.map Prod.fst
  refine wpIn_loop_ghost (fun m a' w' => ∃ x M', ok x ∧ μ x = m ∧ Step M w σ M' w' (S x) ∧ Conc M' w' (S x) ∧ EnvR M' nt (E x) a' ∧ DefOK B (S x) w' a'.defers) (μ x0)
    ⟨x0, M, hok, rfl, (Step.refl _ _ _).sub hsub, hc.sub hsub, hle.R he, by obtain ⟨hB, Ds, e, hn, hh⟩ := hd; exact ⟨hB, Ds, e, hn, fun D hD => ⟨(hh D hD).1, (hh D hD).2.1, fun hk => (hh D hD).2.2 (hkeys.subset hk)⟩⟩⟩ ?_
  rintro m a' w' ⟨x, M', hx, rfl, s1, c1, e1, d1⟩
  refine wpIn_mono (h x hx M' w' a' B c1 e1 d1) ?_
  rintro e a2 w2 ⟨M2, env2, σ2, ae, h1, h2, h3, h4, h5, h6⟩
  cases e with
  | normal =>
    cases ae <;> simp only [AER] at h5
    obtain ⟨y, ⟨hy, hlt⟩, hl2, hs2⟩ := h6
    have hk2 : (S y).keys.Sublist σ2.keys := hs2.map Prod.fst
    exact ⟨μ y, hlt, y, M2, hy, rfl, (s1.trans h1).sub hs2, h2.sub hs2, hl2.R h3, by obtain ⟨hB, Ds, e, hn, hh⟩ := h4; exact ⟨hB, Ds, e, hn, fun D hD => ⟨(hh D hD).1, (hh D hD).2.1, fun hk => (hh D hD).2.2 (hk2.subset hk)⟩⟩⟩
  | exit i => cases ae <;> simp only [AER] at h5; exact ⟨M2, env2, σ2, .exit _, s1.trans h1, h2, h3, h4, h5, h6⟩
  | goto i => cases ae <;> simp only [AER] at h5; exact ⟨M2, env2, σ2, .goto _, s1.trans h1, h2, h3, h4, h5, h6⟩
  | ret => cases ae <;> simp only [AER] at h5; exact ⟨M2, env2, σ2, .ret, s1.trans h1, h2, h3, h4, trivial, h6⟩
  | panic c =>
    have h5' := h5
    cases ae <;> simp only [AER] at h5
    exact ⟨M2, env2, σ2, .pan _, s1.trans h1, h2, h3, h4, h5', h6⟩
  | outgrown => cases ae <;> simp only [AER] at h5

/-- What is known may be forgotten. -/
theorem weak {c : Code} {env : Env} (E : Env) {σ' : Store} {Q : AE → Env → Store → Prop} (hle : EnvLe E env) (hsub : σ'.Sublist σ) (h : AWp P r nt c E σ' Q) : AWp P r nt c env σ Q := by
  intro M w a B hc he hd
  have hk : σ'.keys.Sublist σ.keys := hsub.map Prod.fst
  have hd' : DefOK B σ' w a.defers := by obtain ⟨hB, Ds, e, hn, hh⟩ := hd; exact ⟨hB, Ds, e, hn, fun D hD => ⟨(hh D hD).1, (hh D hD).2.1, fun hk' => (hh D hD).2.2 (hk.subset hk')⟩⟩
  exact wpIn_mono (h M w a B (hc.sub hsub) (hle.R he) hd') (rgPost.trans ((Step.refl M w σ).sub hsub))

/-- Facts that the reading itself bears. -/
theorem known {c : Code} {env : Env} {Q : AE → Env → Store → Prop} (h : (∃ M w a, Conc M w σ ∧ EnvR M nt env a) → AWp P r nt c env σ Q) : AWp P r nt c env σ Q :=
  fun M w a B hc he hd => h ⟨M, w, a, hc, he⟩ M w a B hc he hd

/-! ### A function -/
def resV (P : Program) (σ : Store) (env : Env) : ResultVar → PD
  | .tmp t => (True, env t)
  | .cell t T => qload P σ T (env t)

def resAll (P : Program) (σ : Store) (env : Env) : List ResultVar → Prop
  | [] => True
  | r :: rs => (resV P σ env r).1 ∧ resAll P σ env rs

def resD (P : Program) (σ : Store) (env : Env) (rs : List ResultVar) : PD :=
  match rs with
  | [r] => resV P σ env r
  | rs => (resAll P σ env rs, .tup (rs.map fun r => (resV P σ env r).2))

def argEnv : List D → Nat → List (Nat × D)
  | [], _ => []
  | d :: ds, i => (i, d) :: argEnv ds (i + 1)

def retQ (P : Program) (rs : List ResultVar) (Q : Res → Store → Prop) : AE → Env → Store → Prop
  | .normal, env, σ => (resD P σ env rs).1 ∧ ∃ σ' : Store, σ'.Sublist σ ∧ Q (.ret (resD P σ env rs).2) σ'
  | .ret, env, σ => (resD P σ env rs).1 ∧ ∃ σ' : Store, σ'.Sublist σ ∧ Q (.ret (resD P σ env rs).2) σ'
  | .pan d, _, σ => ∃ σ' : Store, σ'.Sublist σ ∧ Q (.pan d) σ'
  | _, _, _ => False

theorem asAddr_of_load {T : TypeId} {a v : Value} (h : (Instr.loadAt T a).run P w = .ok v w) : (do loadVar T (← asAddr a) : Sem Value).run P w = .ok v w := by
  cases a with
  | pointer x =>
    cases x with
    | some a => exact h
    | none => simp only [Instr.loadAt, Instr.sureAddr, Sem.run_bind] at h; cases h
  | _ => simp only [Instr.loadAt, Instr.sureAddr, Sem.run_bind] at h; cases h

theorem run_results {fn : Func} {rs : List ResultVar} (hres : fn.results = List.toArray rs) {env : Env} {a : Act} (hc : Conc M w σ) (he : EnvR M nt env a) (hq : (resD P σ env rs).1) :
    ∃ v, (results fn a.tmps).run P w = .ok v w ∧ R M (resD P σ env rs).2 v := by
  have one : ∀ f : ResultVar → Sem Value, (∀ t, f (.tmp t) = pure (a.tmps.getD t undef)) → (∀ b t, f (.cell b t) = do loadVar t (← asAddr (a.tmps.getD b undef))) → ∀ r : ResultVar, (resV P σ env r).1 → ∃ v, (f r).run P w = .ok v w ∧ R M (resV P σ env r).2 v := by
    intro f f1 f2 r h
    cases r with
    | tmp t => rw [f1]; exact ⟨_, rfl, he.2 t⟩
    | cell t T =>
      obtain ⟨v, h1, h2⟩ := load_sound hc h (he.2 t)
      rw [f2]
      exact ⟨v, asAddr_of_load h1, h2⟩
  have all : ∀ f : ResultVar → Sem Value, (∀ t, f (.tmp t) = pure (a.tmps.getD t undef)) → (∀ b t, f (.cell b t) = do loadVar t (← asAddr (a.tmps.getD b undef))) → ∀ ts : List ResultVar, resAll P σ env ts → ∃ vs, (ts.mapM f).run P w = .ok vs w ∧ RAll M (ts.map fun r => (resV P σ env r).2) vs := by
    intro f f1 f2 ts
    induction ts with
    | nil => intro _; exact ⟨[], rfl, by simp [RAll]⟩
    | cons t ts ih =>
      intro h
      obtain ⟨v, h1, h2⟩ := one f f1 f2 t h.1
      obtain ⟨vs, h3, h4⟩ := ih h.2
      exact ⟨v :: vs, by simp only [List.mapM_cons, Sem.run_bind, h1, Result.andThen_ok, h3, Sem.run_pure], by simp only [List.map_cons, RAll]; exact ⟨h2, h4⟩⟩
  have core : ∀ f : ResultVar → Sem Value, (∀ t, f (.tmp t) = pure (a.tmps.getD t undef)) → (∀ b t, f (.cell b t) = do loadVar t (← asAddr (a.tmps.getD b undef))) →
      ∃ v, (do let vs ← (List.toArray rs).mapM f; pure (if h : vs.size = 1 then vs[0] else .tuple vs) : Sem Value).run P w = .ok v w ∧ R M (resD P σ env rs).2 v := by
    intro f f1 f2
    simp only [Array.mapM_eq_mapM_toList, Sem.run_bind, Sem.run_map, Sem.run_pure]
    cases rs with
    | nil => exact ⟨_, rfl, by simp only [resD, R]; exact ⟨[], rfl, by simp [RAll]⟩⟩
    | cons t ts =>
      cases ts with
      | nil =>
        simp only [List.mapM_cons, List.mapM_nil, Sem.run_bind]
        obtain ⟨v, h1, h2⟩ := one f f1 f2 t hq
        refine ⟨v, ?_, h2⟩
        rw [h1]
        rfl
      | cons u ts =>
        obtain ⟨vs, h1, h2⟩ := all f f1 f2 (t :: u :: ts) hq
        rw [h1]
        simp only [Result.andThen_ok]
        have hl := h2.length
        simp only [List.map_cons, List.length_cons] at hl
        rw [dif_neg (by simp; omega)]
        exact ⟨_, rfl, by simp only [resD, R]; exact ⟨vs, rfl, h2⟩⟩
  unfold results
  rw [hres]
  refine core _ ?_ ?_ <;> intros <;> rfl

/-- The marks are taken at the function's end. -/
theorem leaves_marks {fn : Func} {tmps : Array Value} {R' : Ending → World → Prop} {u : FrameMode} (hu : u ≠ .run) {M0 : Mem} {w0 : World} {σ0 : Store} : ∀ (Ds : List Nat) (M : Mem) (w : World) (σ : Store), Step M0 w0 σ0 M w σ → Conc M w σ → Ds.Nodup →
    (∀ D ∈ Ds, w0.heap.size ≤ D ∧ w.heap[D]? = some (.deferred (some [])) ∧ D ∉ σ.keys) →
    (∀ w', Step M0 w0 σ0 M w' σ → Conc M w' σ → LeavesIn (WF none) 0 P fn tmps R' [] u w') →
    LeavesInM (WF none) 0 P fn tmps R' (Ds.map fun D => { target := .collected D, args := #[] }) u w
  | [], M, w, σ, hs, hc, _, _, h => h w hs hc
  | D :: Ds, M, w, σ, hs, hc, hn, hD, h => by
    simp only [List.nodup_cons] at hn
    obtain ⟨h1, h2, h3⟩ := hD D (by simp)
    have hlt : D < w.heap.size := (Array.getElem?_eq_some_iff.1 h2).1
    have hother : ∀ k, k ≠ D → (w.putObj D (.deferred none)).heap[k]? = w.heap[k]? := fun k hk => World.putObj_heap_other hk
    refine ⟨hu, .inl ⟨D, _, rfl, run_takeDeferred h2, ?_⟩⟩
    have hc' : Conc M (w.putObj D (.deferred none)) σ := by
      refine ⟨fun b o v hv => ?_, hc.nodup, fun b x hb => ?_⟩
      · have hcell := hc.mem b o v hv
        have hne : b ≠ D := by
          intro e; subst e
          simp only [World.cell?, h2] at hcell
          cases hcell
        simp only [World.cell?, hother b hne]
        exact hcell
      · have hne : b ≠ D := fun e => h3 (e ▸ List.mem_map_of_mem (f := Prod.fst) hb)
        exact (hc.box b x hb).mono (Mem.le.refl _) (fun _ _ h => h) (hother b hne)
    refine leaves_marks hu Ds M _ σ ?_ hc' hn.2 (fun D' hD' => ?_) h
    · exact ⟨hs.le, hs.os, hs.tape, hs.output, (by rw [World.putObj_size]; exact hs.size), fun b hb hk => (hother b (fun e => by omega)).trans (hs.block b hb hk), hs.keys, hs.grow⟩
    · obtain ⟨e1, e2, e3⟩ := hD D' (List.mem_cons_of_mem _ hD')
      exact ⟨e1, (hother D' (fun e => hn.1 (e ▸ hD'))).trans e2, e3⟩

theorem argEnv_R : ∀ (args : List D) (vs : List Value) (k i : Nat) (tmps : Array Value), RAll M args vs → (∀ j v, vs[j]? = some v → tmps.getD (k + j) undef = v) → R M (mk (argEnv args k) i) (tmps.getD i undef)
  | [], _, k, i, tmps, _, _ => by simp only [argEnv, mk, R]
  | d :: ds, [], _, _, _, h, _ => by simp [RAll] at h
  | d :: ds, v :: vs, k, i, tmps, h, ht => by
    simp only [RAll] at h
    simp only [argEnv, mk]
    split
    · rename_i e; subst e
      rw [show tmps.getD i undef = v from by simpa using ht 0 v rfl]
      exact h.1
    · exact argEnv_R ds vs (k + 1) i tmps h.2 fun j u hu => by
        have := ht (j + 1) u (by simpa using hu)
        rwa [show k + 1 + j = k + (j + 1) from by omega]

theorem callFunc_enter {f : Nat} {fn : Func} (hf : P.funcs[f]? = some fn) (hb : fn.body.isNone = false) (hname : (fn.name == "runtime.NumGoroutine") = false) (args : Array Value) : (callFunc f args).run P w = .ok (.enter f args) w := by
  unfold callFunc
  simp only [Sem.run_bind, run_program, Result.andThen_ok, hf, hname, Bool.false_eq_true, if_false, hb, Sem.run_pure]

/-- A FUNCTION's CONTRACT out of its body. -/
theorem fn_ {f : Nat} {fn : Func} {c : Code} {rs : List ResultVar} {args : List D} {Q : Res → Store → Prop} (hf : P.funcs[f]? = some fn) (hb : fn.body = some c) (hname : (fn.name == "runtime.NumGoroutine") = false)
    (hres : fn.results = List.toArray rs) (hn : args.length ≤ fn.ntmps) (h : AWp P none fn.ntmps c (mk (argEnv args 0)) σ (retQ P rs Q)) : ACall P (.func f) args σ Q := by
  intro M w vs hc hr
  have hlen := hr.length
  refine .inl ⟨callFunc_enter hf (by rw [hb]; rfl) hname _, ?_⟩
  have key : CallsIn (WF none) 0 P f (List.toArray vs) w fun e w' => ∃ M' σ' r, Step M w σ M' w' σ' ∧ Conc M' w' σ' ∧ ResR M' r e ∧ Q r σ' := by
    refine callsIn_of_wp_marks hf hb trivial ?_
    have he : EnvR M fn.ntmps (mk (argEnv args 0)) { tmps := List.toArray vs ++ Array.replicate (fn.ntmps - (List.toArray vs).size) undef, defers := [] } := by
      refine ⟨by simp; omega, fun i => argEnv_R args vs 0 i _ hr fun j v hj => ?_⟩
      have hjl := (List.getElem?_eq_some_iff.1 hj).1
      rw [Nat.zero_add, Array.getD_eq_getD_getElem?, Array.getElem?_append_left (by simpa using hjl)]
      simp [hj]
    refine wpIn_mono (h M w _ w.heap.size hc he (DefOK.nil (Nat.le_refl _))) ?_
    rintro e a' w' ⟨M2, env2, σ2, ae, h1, h2, h3, ⟨_, Ds, hd1, hd2, hd3⟩, h5, h6⟩
    have fin : ∀ (x : retQ P rs Q .ret env2 σ2), LeavesInM (WF none) 0 P fn a'.tmps (fun e w' => ∃ M' σ' r, Step M w σ M' w' σ' ∧ Conc M' w' σ' ∧ ResR M' r e ∧ Q r σ') a'.defers .returning w' := by
      rintro ⟨hres1, σ3, s3, hq⟩
      rw [hd1]
      refine leaves_marks (by simp) Ds M2 w' σ2 h1 h2 hd2 hd3 fun w3 st3 c3 => ?_
      obtain ⟨v, r1, r2⟩ := run_results (P := P) (w := w3) hres c3 h3 hres1
      exact ⟨v, r1, M2, σ3, .ret _, st3.sub s3, c3.sub s3, r2, hq⟩
    cases e with
    | normal => cases ae <;> simp only [AER] at h5; exact fin h6
    | ret => cases ae <;> simp only [AER] at h5; exact fin h6
    | exit i => cases ae <;> simp only [AER] at h5; exact h6.elim
    | goto i => cases ae <;> simp only [AER] at h5; exact h6.elim
    | panic ch =>
      have h5' := h5
      cases ae <;> simp only [AER] at h5
      obtain ⟨σ3, s3, hq⟩ := h6
      show LeavesInM _ _ _ _ _ _ a'.defers (.panicking ch) w'
      rw [hd1]
      refine leaves_marks (by simp) Ds M2 w' σ2 h1 h2 hd2 hd3 fun w3 st3 c3 => ?_
      exact ⟨M2, σ3, .pan _, st3.sub s3, c3.sub s3, by
        cases ch with
        | nil => exact h5'.elim
        | cons c cs =>
          cases cs with
          | cons _ _ => exact h5'.elim
          | nil => exact h5', hq⟩
    | outgrown => cases ae <;> simp only [AER] at h5
  exact key

end

end Go.Proofs.Ytgccnkihonmlbaa

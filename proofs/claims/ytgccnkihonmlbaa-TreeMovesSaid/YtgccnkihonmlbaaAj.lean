/- Own layer, part 19: loops over functions; boxes that nobody writes to again. -/
import Derived.Test.YtgccnkihonmlbaaAi
namespace Go.Proofs.Ytgccnkihonmlbaa
open Go Go.RowKit
set_option linter.unusedSimpArgs false
set_option linter.unusedVariables false

section
variable {P : Program} {M : Mem} {w : World} {σ : Store} {r : Option Nat} {nt : Nat}

/-- Stores with the same boxes. -/
theorem Conc.perm {σ' : Store} (hp : σ.Perm σ') (hc : Conc M w σ) : Conc M w σ' :=
  ⟨hc.mem, ((hp.map Prod.fst).nodup_iff).1 hc.nodup, fun b x h => hc.box b x (hp.mem_iff.2 h)⟩
theorem Step.perm {M' : Mem} {w' : World} {σ1 σ2 σ1' : Store} (hp : σ.Perm σ1) (hp' : σ1'.Perm σ2) (h : Step M w σ1 M' w' σ1') : Step M w σ M' w' σ2 := by
  have hk : ∀ b, b ∈ σ1.keys ↔ b ∈ σ.keys := fun b => ((hp.map Prod.fst).mem_iff).symm
  have hk' : ∀ b, b ∈ σ2.keys ↔ b ∈ σ1'.keys := fun b => ((hp'.map Prod.fst).mem_iff).symm
  exact ⟨h.le, h.os, h.tape, h.output, h.size, fun b hb hn => h.block b hb (fun e => hn ((hk b).1 e)), fun b hb => (h.keys b ((hk' b).1 hb)).imp (hk b).1 id,
    fun b o x hx => (h.grow b o x hx).imp id (fun h => h.imp id (hk b).1)⟩

/-- THE FRAME, before. -/
theorem ACall.frameL {f : Fn} {args : List D} {Q : Res → Store → Prop} (ρ : Store) (h : ACall P f args σ Q) :
    ACall P f args (ρ ++ σ) fun r σ' => ∃ σ1, σ' = ρ ++ σ1 ∧ Q r σ1 := by
  intro M w vs hc hr
  have hp : (ρ ++ σ).Perm (σ ++ ρ) := List.perm_append_comm
  refine (ACall.frame ρ h M w vs (hc.perm hp) hr).mono ?_
  rintro e w' ⟨M', σ', r, h1, h2, h3, σ1, rfl, h4⟩
  exact ⟨M', ρ ++ σ1, r, Step.perm hp List.perm_append_comm h1, h2.perm List.perm_append_comm, h3, σ1, rfl, h4⟩

/-- A block that nobody looks at. -/
theorem Conc.allocOther (hc : Conc M w σ) (o : Obj) : Conc M (w.alloc o) σ ∧ Step M w σ M (w.alloc o) σ :=
  ⟨⟨fun b i v h => by rw [cell?_alloc w o (hc.memLt h)]; exact hc.mem b i v h, hc.nodup, fun b y hy => (hc.box b y hy).mono (Mem.le.refl _) (fun _ _ h => h) (alloc_heap_old w o (hc.box b y hy).lt)⟩,
   { le := Mem.le.refl _, os := rfl, tape := rfl, output := rfl, size := by simp, block := fun b hb _ => alloc_heap_old w o hb, keys := fun b hb => .inl hb, grow := fun _ _ _ h => .inl h }⟩

/-! ### Boxes that nobody writes to again -/
def frz1 (b : Nat) (cs : List D) : D → D
  | .ptr b' o => if b' = b then .el (cs.drop o) else .ptr b' o
  | d => d
def frz (b : Nat) (cs : List D) : D → D
  | .ptr b' o => if b' = b then .el (cs.drop o) else .ptr b' o
  | .fn f fs us => .fn f fs (us.map (frz1 b cs))
  | d => d
/-- Some places of an environment, turned. -/
def frzE (ts : List Nat) (b : Nat) (cs : List D) (env : Env) : Env := fun i => bif ts.contains i then frz b cs (env i) else env i
def Store.del : Store → Nat → Store
  | [], _ => []
  | (b, x) :: σ, c => if c = b then σ else (b, x) :: Store.del σ c

theorem Store.del_sublist : ∀ (σ : Store) (c : Nat), (σ.del c).Sublist σ
  | [], _ => .slnil
  | (b, x) :: σ, c => by
    unfold Store.del
    split
    · exact List.sublist_cons_self _ _
    · exact (Store.del_sublist σ c).cons_cons _
theorem Store.del_mem : ∀ {σ : Store} {c : Nat}, σ.keys.Nodup → c ∉ (σ.del c).keys
  | [], _, _ => by simp [Store.del, Store.keys]
  | (b, x) :: σ, c, hn => by
    simp only [Store.keys, List.map_cons, List.nodup_cons] at hn
    unfold Store.del
    split
    · rename_i e; subst e; exact hn.1
    · rename_i e
      simp only [Store.keys, List.map_cons, List.mem_cons, not_or]
      exact ⟨e, Store.del_mem hn.2⟩

theorem R_frz1 {M' : Mem} {b : Nat} {cs : List D} (hle : Mem.le M M') (hb : RCells M' cs b 0) : ∀ {d : D} {v : Value}, R M d v → R M' (frz1 b cs d) v := by
  intro d v h
  have h' := h.mono hle
  unfold frz1
  split
  · rename_i b' o
    split
    · rename_i e
      subst e
      simp only [R] at h ⊢
      exact ⟨b', o, h, by have := hb.drop o; rwa [Nat.zero_add] at this⟩
    · exact h'
  · exact h'
theorem RAll_frz1 {M' : Mem} {b : Nat} {cs : List D} (hle : Mem.le M M') (hb : RCells M' cs b 0) : ∀ {ds : List D} {vs : List Value}, RAll M ds vs → RAll M' (ds.map (frz1 b cs)) vs
  | [], [], _ => by simp [RAll]
  | d :: ds, v :: vs, h => by simp only [RAll, List.map_cons] at h ⊢; exact ⟨R_frz1 hle hb h.1, RAll_frz1 hle hb h.2⟩
  | [], _ :: _, h => by simp [RAll] at h
  | _ :: _, [], h => by simp [RAll] at h
theorem R_frz {M' : Mem} {b : Nat} {cs : List D} (hle : Mem.le M M') (hb : RCells M' cs b 0) {d : D} {v : Value} (h : R M d v) : R M' (frz b cs d) v := by
  have h' := h.mono hle
  unfold frz
  split
  · have := R_frz1 hle hb h
    unfold frz1 at this
    exact this
  · simp only [R] at h ⊢
    obtain ⟨vs, us, e, h1, h2⟩ := h
    exact ⟨vs, us, e, h1.mono hle, RAll_frz1 hle hb h2⟩
  · exact h'

/-- A box becomes memory that stays. -/
theorem fz (b : Nat) (ts : List Nat) (cs : List D) {c : Code} {env : Env} {Q : AE → Env → Store → Prop} (hg : σ.get b = some (.cells cs)) (h : AWp P r nt c (frzE ts b cs env) (σ.del b) Q) : AWp P r nt c env σ Q := by
  intro M w a B hc he hd
  obtain ⟨⟨vs, T, hh, hr, hcell⟩, hm⟩ := hc.box b _ (Store.mem_of_get hg)
  have hbk : b ∈ σ.keys := Store.get_mem hg
  let M' : Mem := fun b' o => if b' = b then vs[o]? else M b' o
  have hle : Mem.le M M' := fun b' o x hx => by
    show (if b' = b then _ else _) = _
    rw [if_neg (fun e => by subst e; rw [hm] at hx; cases hx)]
    exact hx
  have hM' : ∀ i v, vs[i]? = some v → M' b (0 + i) = some v := fun i v hv => by
    show (if b = b then _ else _) = _
    rw [if_pos rfl, Nat.zero_add]; exact hv
  have hcells : RCells M' cs b 0 := RCells_of M' b 0 (hr.mono hle) hM'
  have hdel := Store.del_sublist σ b
  have hnot := Store.del_mem (c := b) hc.nodup
  have hc' : Conc M' w (σ.del b) := by
    refine ⟨fun b' o x hx => ?_, hc.nodup.sublist (hdel.map Prod.fst), fun b' y hy => ?_⟩
    · have hx' : (if b' = b then vs[o]? else M b' o) = some x := hx
      split at hx'
      · rename_i e; subst e
        simp only [World.cell?, hh]
        simpa using hx'
      · exact hc.mem b' o x hx'
    · refine (hc.box b' y (hdel.subset hy)).mono hle (fun o v hv => ?_) rfl
      have hne : b' ≠ b := fun e => hnot (e ▸ List.mem_map_of_mem (f := Prod.fst) hy)
      have hv' : (if b' = b then vs[o]? else M b' o) = some v := hv
      rwa [if_neg hne] at hv'
  have hs : Step M w σ M' w (σ.del b) :=
    ⟨hle, rfl, rfl, rfl, Nat.le_refl _, fun _ _ _ => rfl, fun b' hb' => .inl ((hdel.map Prod.fst).subset hb'), fun b' o x hx => by
      have hx' : (if b' = b then vs[o]? else M b' o) = some x := hx
      split at hx'
      · rename_i e; exact .inr (.inr (e ▸ hbk))
      · exact .inl hx'⟩
  have he' : EnvR M' nt (frzE ts b cs env) a := ⟨he.1, fun i => by
    unfold frzE
    cases ts.contains i with
    | true => exact R_frz hle hcells (he.2 i)
    | false => exact (he.2 i).mono hle⟩
  exact wpIn_mono (h M' w a B hc' he' (hd.step hs)) (rgPost.trans hs)

/-- One box beside a piece of work that does not see it. -/
theorem Conc.framed {M' : Mem} {w' : World} {σ' : Store} {b : Nat} {x : Box} (hc : Conc M w ((b, x) :: σ)) (s : Step M w σ M' w' σ') (c : Conc M' w' σ') :
    Conc M' w' ((b, x) :: σ') ∧ Step M w ((b, x) :: σ) M' w' ((b, x) :: σ') := by
  have hn := hc.nodup
  simp only [Store.keys, List.map_cons, List.nodup_cons] at hn
  have hlt := (hc.box b x (List.mem_cons_self ..)).lt
  have hk : b ∉ σ'.keys := fun h => (s.keys b h).elim hn.1 (fun h => by omega)
  refine ⟨⟨c.mem, ?_, fun b' y hy => ?_⟩, ?_⟩
  · simp only [Store.keys, List.map_cons, List.nodup_cons]
    exact ⟨hk, c.nodup⟩
  · rcases List.mem_cons.1 hy with hy | hy
    · cases hy
      exact (hc.box b x (List.mem_cons_self ..)).mono s.le (fun o v hv => (s.grow b o v hv).elim id (fun h => h.elim (fun h => by omega) (fun h => absurd h hn.1))) (s.block b hlt hn.1)
    · exact c.box b' y hy
  · refine ⟨s.le, s.os, s.tape, s.output, s.size, fun k hk1 hk2 => s.block k hk1 (fun h => hk2 ?_), fun k hk1 => ?_, fun k o v hv => (s.grow k o v hv).imp id (fun h => h.imp id (fun h => ?_))⟩
    · simp only [Store.keys, List.map_cons, List.mem_cons]; exact .inr h
    · simp only [Store.keys, List.map_cons, List.mem_cons] at hk1 ⊢
      rcases hk1 with h | h
      · exact .inl (.inl h)
      · exact (s.keys k h).imp .inr id
    · simp only [Store.keys, List.map_cons, List.mem_cons]; exact .inr h

/-- An object of a loop is turned. -/
theorem Conc.turnObj {b : Nat} {o o' : Obj} {env : Nat → D} {tm : Array Value} (hc : Conc M w ((b, .obj o env tm) :: σ)) :
    Conc M (w.putObj b o') ((b, .obj o' env tm) :: σ) ∧ Step M w ((b, .obj o env tm) :: σ) M (w.putObj b o') ((b, .obj o' env tm) :: σ) := by
  have hbx := hc.box _ _ (List.mem_cons_self ..)
  have hu : Store.upd ((b, Box.obj o env tm) :: σ) b (.obj o' env tm) = (b, Box.obj o' env tm) :: σ := by simp [Store.upd]
  have := hc.turn (w' := w.putObj b o') (b := b) (y := .obj o' env tm) (by simp [Store.keys]) (by simp) rfl rfl rfl
    (fun k hk => World.putObj_heap_other hk) (fun o' v hv => by rw [hbx.2.1] at hv; cases hv) ⟨World.putObj_heap_same hbx.lt, hbx.2⟩
  rwa [hu] at this

/-! ### Loops over functions -/
def AE.jump : AE → Option (Option Code)
  | .normal => some none
  | .exit i => some (some (.exit i))
  | .goto t => some (some (.goto t))
  | .ret => some (some .ret)
  | .pan _ => none

/-- A function that yields a list, in its order, as long as yield says so, and does nothing else that is seen. -/
def SeqC (P : Program) (f : Fn) (caps : List D) (xs : List (List D)) : Prop :=
  ∀ (y : Fn) (J : Nat → Store → Prop) (Jx : Store → Prop), (∀ i x, xs[i]? = some x → ∀ τ, J i τ → ACall P y x τ fun r τ' => (r = .ret (.bool true) ∧ J (i + 1) τ') ∨ (r = .ret (.bool false) ∧ Jx τ')) →
    ∀ τ, J 0 τ → ACall P f ([.fn y [] []] ++ caps) τ fun r τ' => (∃ d, r = .ret d) ∧ (J xs.length τ' ∨ Jx τ')

/-- The places of the loop's variables. -/
def setPs : List Nat → List D → Env → Env
  | p :: ps, d :: ds, env => setPs ps ds (env.set p d)
  | _, _, env => env

theorem setPs_R {M : Mem} : ∀ {ps : List Nat} {ds : List D} {vs : List Value} {env : Env} {a : Act}, EnvR M nt env a → RAll M ds vs → (∀ p ∈ ps, p < nt) → ps.length = vs.length →
    EnvR M nt (setPs ps ds env) { a with tmps := (ps.zip vs).foldl (fun t (p, v) => t.setIfInBounds p v) a.tmps }
  | [], _, _, _, a, he, _, _, _ => by cases a; unfold setPs; exact he
  | p :: ps, [], [], _, a, he, _, _, hl => by simp at hl
  | p :: ps, d :: ds, v :: vs, env, a, he, hr, hp, hl => by
    simp only [RAll] at hr
    have h1 : EnvR M nt (env.set p d) (a.put (some p) v) := he.put (dst := some p) (by simpa using hp p (by simp)) hr.1
    have := setPs_R (ps := ps) h1 hr.2 (fun q hq => hp q (List.mem_cons_of_mem _ hq)) (by simpa using hl)
    simp only [setPs, List.zip_cons_cons, List.foldl_cons]
    exact this
  | p :: ps, [], _ :: _, _, _, _, hr, _, _ => by simp [RAll] at hr
  | p :: ps, _ :: _, [], _, _, _, hr, _, _ => by simp [RAll] at hr

theorem rfG {g : Operand} {ps : List Nat} {asg body : Code} {env : Env} {Q : AE → Env → Store → Prop} {gf : Nat} {fn : Func} {caps : List D} {xs : List (List D)}
    {Z : Type} (z0 : Z) (J : Z → Nat → Store → Prop) (Jx : AE → Store → Prop) (hg : opd env g = .fn (.func gf) [] caps) (hf : P.funcs[gf]? = some fn) (hb : fn.body.isNone = false) (hname : (fn.name == "runtime.NumGoroutine") = false)
    (hxs : ∀ (y : Fn) (bx : Nat × Box) (Jx : Store → Prop), (∀ z i x, xs[i]? = some x → ∀ τ, (∃ σ', τ = bx :: σ' ∧ J z i σ') → ACall P y x τ fun r τ' => (r = .ret (.bool true) ∧ ∃ σ', τ' = bx :: σ' ∧ J z (i + 1) σ') ∨ (r = .ret (.bool false) ∧ Jx τ')) →
      ∀ τ, (∃ σ', τ = bx :: σ' ∧ J z0 0 σ') → ACall P (.func gf) ([.fn y [] []] ++ caps) τ fun r τ' => (∃ d, r = .ret d) ∧ ((∃ z σ', τ' = bx :: σ' ∧ J z xs.length σ') ∨ Jx τ')) (hps : ∀ p ∈ ps, p < nt) (hlen : ∀ x ∈ xs, x.length = ps.length) (h0 : J z0 0 σ)
    (hround : ∀ z L i x, xs[i]? = some x → ∀ τ, J z i τ → AWp P (some L) nt asg (setPs ps x env) τ fun e env1 τ1 => e = .normal ∧ AWp P (some L) nt body env1 τ1 fun e _ τ2 => match e with
      | .normal => J z (i + 1) τ2
      | .pan _ => False
      | e => Jx e τ2)
    (hn : ∀ z τ, J z xs.length τ → Q .normal env τ) (hx : ∀ e τ, Jx e τ → e ≠ .normal → (∀ d, e ≠ .pan d) → Q e env τ) : AWp P none nt (.rangeFunc g (List.toArray ps) asg body) env σ Q := by
  intro M w a B hc he hd
  refine wpIn_rangeFunc ?_
  intro fid _
  obtain ⟨rec, hrec⟩ : ∃ rec : LoopState → Option Code → Loop, rec = fun st pe => { state := st, pending := pe, fn := fid, tmps := a.tmps, params := List.toArray ps, assign := asg, body := body, defers := w.heap.size } := ⟨_, rfl⟩
  obtain ⟨hcD, hsD⟩ := hc.allocOther (.deferred (some []))
  have hb1 : BoxR M ((w.alloc (.deferred (some []))).alloc (.loop (rec .ready none))) (w.alloc (.deferred (some []))).heap.size (.obj (.loop (rec .ready none)) env a.tmps) :=
    ⟨alloc_heap_new _ _, hcD.mem_none, he.2⟩
  obtain ⟨hc1, hs1, hL⟩ := hcD.newBox hb1
  have hLs : (w.alloc (.deferred (some []))).heap.size = w.heap.size + 1 := by simp
  rw [hLs] at hc1 hs1 hL
  obtain ⟨W1, hW1⟩ : ∃ W1, (w.alloc (.deferred (some []))).alloc (.loop (rec .ready none)) = W1 := ⟨_, rfl⟩
  rw [hW1] at hc1 hs1
  have hsT := hsD.trans hs1
  have hDheap : W1.heap[w.heap.size]? = some (.deferred (some [])) := by
    rw [← hW1]
    rw [alloc_heap_old _ _ (by rw [hLs]; omega)]
    exact alloc_heap_new w _
  have hDk : w.heap.size ∉ Store.keys ((w.heap.size + 1, Box.obj (.loop (rec .ready none)) env a.tmps) :: σ) := by
    simp only [Store.keys, List.map_cons, List.mem_cons, not_or]
    exact ⟨by omega, hc.fresh⟩
  have hgv := opd_R he g
  rw [hg] at hgv
  simp only [R] at hgv
  obtain ⟨fvs, cvs, hgv, hr1, hr2⟩ := hgv
  have hfv : fvs = [] := by cases fvs with | nil => rfl | cons _ _ => simp [RAll] at hr1
  subst hfv
  -- the contract of yield
  let Jx' : Store → Prop := fun τ => ∃ σ' e jump, τ = (w.heap.size + 1, Box.obj (.loop (rec .done (some jump))) env a.tmps) :: σ' ∧ AE.jump e = some (some jump) ∧ Jx e σ'
  have hcall := hxs (.yield (w.heap.size + 1)) (w.heap.size + 1, Box.obj (.loop (rec .ready none)) env a.tmps) Jx' ?_ _ ⟨σ, rfl, h0⟩
  · have hvs : RAll M ([D.fn (.yield (w.heap.size + 1)) [] []] ++ caps) (Value.func (.yield (w.heap.size + 1)) #[] #[] :: cvs) := by
      simp only [List.cons_append, List.nil_append, RAll]
      exact ⟨by simp only [R]; exact ⟨[], [], rfl, by simp [RAll], by simp [RAll]⟩, hr2⟩
    have hcv := hcall M W1 _ hc1 hvs
    have henter := callFunc_enter (P := P) (w := W1) hf hb hname (List.toArray (Value.func (.yield (w.heap.size + 1)) #[] #[] :: cvs))
    obtain ⟨_, hcalls⟩ := hcv.resolve_right (by rintro ⟨v, w', h1, _⟩; rw [henter] at h1; cases h1)
    refine ⟨w.heap.size + 1, [{ target := .collected w.heap.size, args := #[] }], W1, { target := .fn (.func gf) (List.toArray cvs), args := #[.func (.yield (w.heap.size + 1)) #[] #[]] }, W1, gf,
      List.toArray (Value.func (.yield (w.heap.size + 1)) #[] #[] :: cvs), W1, ?_, ?_, fun _ _ => trivial, ?_, fun h => by simp [WF, Fence.wide] at h, ?_⟩
    · rw [← hW1, hrec]; exact run_enterLoop_outer _ _ _ _ _
    · simp only [resolve, hgv]
      simp [go_sem]
    · have e : (#[Value.func (.yield (w.heap.size + 1)) #[] #[]] ++ List.toArray cvs) = List.toArray (Value.func (.yield (w.heap.size + 1)) #[] #[] :: cvs) := by simp
      simp only [invoke, e]
      simp only [go_sem, henter]
    · refine CallsIn.mono hcalls ?_
      rintro e w3 ⟨M3, σ3, rr, s3, c3, r3, ⟨dd, rfl⟩, hJ⟩
      have hsA := hsT.trans s3
      cases e with
      | panicked ch => simp [ResR] at r3
      | outgrown => simp [ResR] at r3
      | returned v =>
        have mk1 : ∀ (o : Loop) (σ' : Store), σ3 = (w.heap.size + 1, Box.obj (.loop o) env a.tmps) :: σ' → o.state ≠ .busy →
            ∃ w4, (Instr.endLoop (w.heap.size + 1)).run P w3 = .ok o.pending w4 ∧ Conc M3 w4 σ' ∧ Step M w σ M3 w4 σ' ∧ w4.heap[w.heap.size]? = some (.deferred (some [])) ∧ w.heap.size ∉ σ'.keys := by
          intro o σ' e hst
          subst e
          have hbx := (c3.box _ _ (List.mem_cons_self ..)).1
          have hrun := run_endLoop (P := P) hbx hst
          have hlt : w.heap.size + 1 < w3.heap.size := (Array.getElem?_eq_some_iff.1 hbx).1
          have hDk3 : w.heap.size ∉ Store.keys ((w.heap.size + 1, Box.obj (.loop o) env a.tmps) :: σ') := fun hk => (s3.keys _ hk).elim hDk (fun h => by have := hs1.size; omega)
          have hD3 : w3.heap[w.heap.size]? = some (.deferred (some [])) := (s3.block _ (Array.getElem?_eq_some_iff.1 hDheap).1 hDk).trans hDheap
          obtain ⟨hct, hst'⟩ := c3.turn (w' := w3.putObj (w.heap.size + 1) (.loop { o with state := .exhausted })) (b := w.heap.size + 1) (y := .obj (.loop { o with state := .exhausted }) env a.tmps) (by simp [Store.keys]) (by simp) rfl rfl rfl
            (fun k hk => World.putObj_heap_other hk) (fun o' v hv => by rw [(c3.box _ _ (List.mem_cons_self ..)).2.1] at hv; cases hv) ⟨World.putObj_heap_same hlt, (c3.box _ _ (List.mem_cons_self ..)).2⟩
          have hu : Store.upd ((w.heap.size + 1, Box.obj (.loop o) env a.tmps) :: σ') (w.heap.size + 1) (.obj (.loop { o with state := .exhausted }) env a.tmps) = (w.heap.size + 1, Box.obj (.loop { o with state := .exhausted }) env a.tmps) :: σ' := by
            simp [Store.upd]
          rw [hu] at hct hst'
          have hsub : σ'.Sublist ((w.heap.size + 1, Box.obj (.loop { o with state := .exhausted }) env a.tmps) :: σ') := List.sublist_cons_self _ _
          refine ⟨_, hrun, hct.sub hsub, (hsA.trans hst').sub hsub, (World.putObj_heap_other (by omega)).trans hD3, fun hk => hDk3 (by simp only [Store.keys, List.map_cons, List.mem_cons]; exact .inr hk)⟩
        have hdef : ∀ w4 σ', Step M w σ M3 w4 σ' → w4.heap[w.heap.size]? = some (.deferred (some [])) → w.heap.size ∉ σ'.keys →
            DefOK B σ' w4 ([{ target := .collected w.heap.size, args := #[] }] ++ a.defers) := by
          intro w4 σ' hst hD hk
          obtain ⟨hB, Ds, e, hn', hh⟩ := hd.step hst
          refine ⟨hB, w.heap.size :: Ds, by rw [e]; rfl, ?_, fun D hD' => ?_⟩
          · simp only [List.nodup_cons]
            refine ⟨fun hin => ?_, hn'⟩
            obtain ⟨hB0, Ds0, e0, hn0, hh0⟩ := hd
            have : Ds0 = Ds := by
              rw [e0] at e
              have := congrArg (List.map fun d : Deferred => match d.target with | .collected D => D | _ => 0) e
              simpa [List.map_map, Function.comp_def] using this
            subst this
            have := (Array.getElem?_eq_some_iff.1 (hh0 _ hin).2.1).1
            omega
          · rcases List.mem_cons.1 hD' with rfl | hD'
            · exact ⟨hd.1, hD, hk⟩
            · exact hh D hD'
        rcases hJ with ⟨z, σ', e, hJ⟩ | ⟨σ', ae, jump, e, hae, hJ⟩
        · obtain ⟨w4, hrun, hc4, hs4, hD4, hk4⟩ := mk1 _ σ' e (by rw [hrec]; simp)
          refine ⟨_, w4, hrun, ?_⟩
          rw [hrec]
          exact ⟨M3, env, σ', .normal, hs4, hc4, he.mono hs4.le, hdef w4 σ' hs4 hD4 hk4, trivial, hn z σ' hJ⟩
        · obtain ⟨w4, hrun, hc4, hs4, hD4, hk4⟩ := mk1 _ σ' e (by rw [hrec]; simp)
          refine ⟨_, w4, hrun, ?_⟩
          rw [hrec]
          simp only
          have fin := hdef w4 σ' hs4 hD4 hk4
          have hE := he.mono hs4.le
          cases ae with
          | normal => simp [AE.jump] at hae
          | pan d => simp [AE.jump] at hae
          | exit i =>
            simp only [AE.jump, Option.some.injEq] at hae
            subst hae
            exact wpIn_exit ⟨M3, env, σ', .exit i, hs4, hc4, hE, fin, rfl, hx _ σ' hJ (by simp) (by simp)⟩
          | goto i =>
            simp only [AE.jump, Option.some.injEq] at hae
            subst hae
            exact wpIn_goto ⟨M3, env, σ', .goto i, hs4, hc4, hE, fin, rfl, hx _ σ' hJ (by simp) (by simp)⟩
          | ret =>
            simp only [AE.jump, Option.some.injEq] at hae
            subst hae
            exact wpIn_ret ⟨M3, env, σ', .ret, hs4, hc4, hE, fin, trivial, hx _ σ' hJ (by simp) (by simp)⟩
  · -- one round
    rintro z i x hx' τ ⟨σ', rfl, hJ⟩ M' w' vs hc' hr'
    obtain ⟨hheap, hnone, henv⟩ := hc'.box _ _ (List.mem_cons_self ..)
    have hvl : vs.length = ps.length := by rw [← hr'.length]; exact hlen x (List.mem_of_getElem? hx')
    have hnd := hc'.nodup
    simp only [Store.keys, List.map_cons, List.nodup_cons] at hnd
    have hsub : σ'.Sublist ((w.heap.size + 1, Box.obj (.loop (rec .ready none)) env a.tmps) :: σ') := List.sublist_cons_self _ _
    have hrp : ∀ st pe, (rec st pe).params = List.toArray ps := fun st pe => by rw [hrec]
    refine ⟨fid, _, asg, body, (run_yield hheap (by rw [hrp]; simp [hvl])).trans (by rw [hrec]), roundIn_of_wpIn (F := WF none) trivial ?_⟩
    have heR : EnvR M' nt (setPs ps x env) { tmps := ((List.toArray ps).zip (List.toArray vs)).foldl (fun t (p, v) => t.setIfInBounds p v) a.tmps, defers := [] } := by
      have e0 : EnvR M' nt env { tmps := a.tmps, defers := [] } := ⟨he.1, henv⟩
      have := setPs_R e0 hr' hps hvl.symm
      simpa using this
    refine wpIn_mono (hround z (w.heap.size + 1) i x hx' σ' hJ M' w' _ w'.heap.size (hc'.sub hsub) heR (DefOK.nil (Nat.le_refl _))) ?_
    rintro e a1 w1 ⟨M1, env1, σ1, ae, s1, c1, e1, d1, hae, rfl, hbody⟩
    cases e with
    | exit _ => exact hae.elim
    | goto _ => exact hae.elim
    | ret => exact hae.elim
    | panic _ => exact hae.elim
    | outgrown => exact hae.elim
    | normal =>
    obtain ⟨c1L, s1L⟩ := hc'.framed s1 c1
    have h1L := (c1L.box _ _ (List.mem_cons_self ..)).1
    refine ⟨_, run_beginRound h1L (by rw [hrec]), ?_⟩
    obtain ⟨c2L, s2L⟩ := c1L.turnObj (o' := .loop { rec .ready none with state := .busy })
    have hsub1 : σ1.Sublist ((w.heap.size + 1, Box.obj (.loop { rec .ready none with state := .busy }) env a.tmps) :: σ1) := List.sublist_cons_self _ _
    have d2 : DefOK w'.heap.size σ1 (w1.putObj (w.heap.size + 1) (.loop { rec .ready none with state := .busy })) a1.defers := by
      obtain ⟨hB, Ds, e, hn', hh⟩ := d1
      refine ⟨by simpa using hB, Ds, e, hn', fun D hD => ?_⟩
      obtain ⟨h1, h2, h3⟩ := hh D hD
      exact ⟨h1, (World.putObj_heap_other (fun e => by rw [e, h1L] at h2; cases h2)).trans h2, h3⟩
    refine wpIn_mono (hbody M1 _ a1 w'.heap.size (c2L.sub hsub1) e1 d2) ?_
    rintro e a2 w3 ⟨M2, env2, σ2, ae2, s3, c3, e3, d3, hae2, hq⟩
    obtain ⟨c3L, s3L⟩ := c2L.framed s3 c3
    have h3L := (c3L.box _ _ (List.mem_cons_self ..)).1
    have fin : ∀ jump : Option Code, ∃ w4, (Instr.endRound (w.heap.size + 1) jump).run P w3 = .ok (.bool jump.isNone) w4 ∧ Conc M2 w4 ((w.heap.size + 1, Box.obj (.loop (rec (if jump.isNone then .ready else .done) jump)) env a.tmps) :: σ2) ∧
        Step M' w' ((w.heap.size + 1, Box.obj (.loop (rec .ready none)) env a.tmps) :: σ') M2 w4 ((w.heap.size + 1, Box.obj (.loop (rec (if jump.isNone then .ready else .done) jump)) env a.tmps) :: σ2) := by
      intro jump
      obtain ⟨c4, s4⟩ := c3L.turnObj (o' := .loop (rec (if jump.isNone then .ready else .done) jump))
      refine ⟨_, (run_endRound jump h3L).trans (by rw [hrec]), c4, ((s1L.trans s2L).trans s3L).trans s4⟩
    cases e with
    | normal =>
      cases ae2 <;> simp only [AER] at hae2
      obtain ⟨w4, h1, h2, h3⟩ := fin none
      exact ⟨_, w4, h1, M2, _, .ret (.bool true), h3, h2, by simp only [ResR, R]; rfl, .inl ⟨rfl, σ2, rfl, hq⟩⟩
    | exit id =>
      cases ae2 <;> simp only [AER] at hae2
      subst hae2
      obtain ⟨w4, h1, h2, h3⟩ := fin (some (.exit _))
      exact ⟨_, w4, h1, M2, _, .ret (.bool false), h3, h2, by simp only [ResR, R]; rfl, .inr ⟨rfl, σ2, .exit _, _, rfl, rfl, hq⟩⟩
    | goto id =>
      cases ae2 <;> simp only [AER] at hae2
      subst hae2
      obtain ⟨w4, h1, h2, h3⟩ := fin (some (.goto _))
      exact ⟨_, w4, h1, M2, _, .ret (.bool false), h3, h2, by simp only [ResR, R]; rfl, .inr ⟨rfl, σ2, .goto _, _, rfl, rfl, hq⟩⟩
    | ret =>
      cases ae2 <;> simp only [AER] at hae2
      obtain ⟨w4, h1, h2, h3⟩ := fin (some .ret)
      exact ⟨_, w4, h1, M2, _, .ret (.bool false), h3, h2, by simp only [ResR, R]; rfl, .inr ⟨rfl, σ2, .ret, _, rfl, rfl, hq⟩⟩
    | panic ch => cases ae2 <;> simp only [AER] at hae2; exact hq.elim
    | outgrown => cases ae2 <;> simp only [AER] at hae2

theorem rf {g : Operand} {ps : List Nat} {asg body : Code} {env : Env} {Q : AE → Env → Store → Prop} {gf : Nat} {fn : Func} {caps : List D} {xs : List (List D)}
    (J : Nat → Store → Prop) (Jx : AE → Store → Prop) (hg : opd env g = .fn (.func gf) [] caps) (hf : P.funcs[gf]? = some fn) (hb : fn.body.isNone = false) (hname : (fn.name == "runtime.NumGoroutine") = false)
    (hxs : SeqC P (.func gf) caps xs) (hps : ∀ p ∈ ps, p < nt) (hlen : ∀ x ∈ xs, x.length = ps.length) (h0 : J 0 σ)
    (hround : ∀ L i x, xs[i]? = some x → ∀ τ, J i τ → AWp P (some L) nt asg (setPs ps x env) τ fun e env1 τ1 => e = .normal ∧ AWp P (some L) nt body env1 τ1 fun e _ τ2 => match e with
      | .normal => J (i + 1) τ2
      | .pan _ => False
      | e => Jx e τ2)
    (hn : ∀ τ, J xs.length τ → Q .normal env τ) (hx : ∀ e τ, Jx e τ → e ≠ .normal → (∀ d, e ≠ .pan d) → Q e env τ) : AWp P none nt (.rangeFunc g (List.toArray ps) asg body) env σ Q :=
  rfG (Z := Unit) () (fun _ => J) Jx hg hf hb hname (fun y bx Jx' h τ hτ => ACall.mono (hxs y (fun i τ => ∃ σ', τ = bx :: σ' ∧ J i σ') Jx' (h ()) τ hτ) fun r τ' hh => ⟨hh.1, hh.2.imp (fun hh => ⟨(), hh⟩) id⟩) hps hlen h0 (fun _ => hround) (fun _ => hn) hx


end

end Go.Proofs.Ytgccnkihonmlbaa

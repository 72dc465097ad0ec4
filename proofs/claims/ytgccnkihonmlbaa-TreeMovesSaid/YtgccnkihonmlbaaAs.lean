/- Own layer, part 28: regions told operation by operation, of the machine; ranges over maps. -/
import Derived.Test.YtgccnkihonmlbaaAr
import Derived.Maps.RangeRun
namespace Go.Proofs.Ytgccnkihonmlbaa
open Go Go.RowKit
set_option linter.unusedSimpArgs false
set_option linter.unusedVariables false

section
variable {P : Program} {M : Mem} {w : World} {σ : Store} {r : Option Nat} {nt : Nat}

/-- What an operation comes to, said of the machine. -/
def opS (P : Program) (nt : Nat) (o : Oper) (env : Env) (σ : Store) (K X : D → Store → Prop) : Prop := ∀ M w (a : Act), Conc M w σ → EnvR M nt env a → NOut P M w σ (execOp a.eval o) K X
def vopsS (P : Program) (nt : Nat) (κ : Env → Store → Prop) (X : D → Store → Prop) : List Oper → Env → Store → Prop
  | [], env, σ => κ env σ
  | o :: os, env, σ => opS P nt o env σ (fun d σ' => vopsS P nt κ X os (env.put o.dst d) σ') X

theorem vopsS_sound {ops : Array Oper} {Q : AE → Env → Store → Prop} (keep : List Nat) {M0 : Mem} {w0 : World} {σ0 : Store} {a0 : Act} {B : Nat} : ∀ (l : List Oper) (k : Nat), (∀ j, l[j]? = ops[k + j]?) → l.all (okOp nt) = true → l.all (·.guard.isNone) = true → ∀ (env : Env) (σ : Store) (M : Mem) (w : World) (a : Act),
    vopsS P nt (fun env σ => Q .normal (prune keep env) σ) (fun d σ => Q (.pan d) (fun _ => .top) σ) l env σ →
    Conc M w σ → EnvR M nt env a → DefOK B σ0 w0 a0.defers → a.defers = a0.defers → Step M0 w0 σ0 M w σ → wpOpsIn (WF r) 0 P ops (rgPost M0 w0 σ0 nt B Q) (List.range' k l.length) a w
  | [], k, _, _, _, env, σ, M, w, a, h, hc, he, hd, hda, hs => by
    simp only [List.length_nil, List.range'_zero, wpOpsIn]
    exact ⟨M, _, σ, .normal, hs, hc, he.prune keep, hda ▸ hd.step hs, trivial, h⟩
  | o :: l, k, hl, hok, hgd, env, σ, M, w, a, h, hc, he, hd, hda, hs => by
    have h0 : ops[k]? = some o := by simpa using (hl 0).symm
    simp only [List.all_cons, Bool.and_eq_true] at hok hgd
    simp only [List.length_cons, List.range'_succ]
    rw [wpOpsIn_cons]
    unfold wpOpIn
    simp only [h0]
    have hg : o.guard = none := by simpa using hgd.1
    rw [if_pos (by simp [Region.wanted, hg])]
    refine wpIn_of_out (quiet_not_defer hok.1) (h M w a hc he) ?_ ?_
    · intro M' w' σ' d v s1 c1 r1 k1
      have hdef : (a.put o.dst v).defers = a.defers := by cases o.dst <;> rfl
      exact vopsS_sound keep l (k + 1) (fun j => by have := hl (j + 1); simpa [Nat.add_assoc, Nat.add_comm 1 j] using this) hok.2 hgd.2 _ σ' M' w' _ k1 c1 ((he.mono s1.le).put (okOp_dst hok.1) r1) hd (hdef.trans hda) (hs.trans s1)
    · intro M' w' σ' d v s1 c1 r1 x1
      exact ⟨M', fun _ => .top, σ', .pan d, hs.trans s1, c1, ⟨he.1, fun _ => by simp only [R]⟩, hda ▸ hd.step (hs.trans s1), ⟨v, rfl, r1⟩, x1⟩
/-- A REGION IN THE TEXT's ORDER, whose operations are told of the machine. -/
theorem rgS (keep : List Nat) {id : Nat} {l : List Oper} {env : Env} {Q : AE → Env → Store → Prop} (hok : (l.all (okOp nt) && l.all (·.guard.isNone)) = true)
    (h : ∀ (κ : Env → Store → Prop) (ξ : D → Store → Prop), (∀ env σ, Q .normal env σ → κ env σ) → (∀ d σ, Q (.pan d) (fun _ => .top) σ → ξ d σ) → vopsS P nt (fun env σ => κ (prune keep env) σ) ξ l env σ) : AWp P r nt (.region id l.toArray false) env σ Q := by
  intro M w a B hc he hd
  refine wpIn_region ?_
  simp only [Bool.and_eq_true] at hok
  have := vopsS_sound (P := P) (r := r) (ops := l.toArray) (Q := Q) keep l 0 (by simp) hok.1 hok.2 env σ M w a (h (fun env σ => Q .normal env σ) (fun d σ => Q (.pan d) (fun _ => .top) σ) (fun _ _ h => h) (fun _ _ h => h)) hc he hd rfl (Step.refl _ _ _)
  rw [List.range_eq_range', show l.toArray.size = l.length from by simp]
  exact this
variable {κ : Env → Store → Prop} {X : D → Store → Prop} {dst : Option Nat} {T : TypeId} {pos_ : String} {aft : Array Edge} {os : List Oper} {env : Env}
theorem vS_nil (h : κ env σ) : vopsS P nt κ X [] env σ := h
theorem vS_q {op : Op} (h1 : (qev P σ (opd env) op).1) (h2 : vopsS P nt κ X os (env.put dst (qev P σ (opd env) op).2) σ) : vopsS P nt κ X (⟨dst, op, T, pos_, aft, none⟩ :: os) env σ := by
  intro M w a hc he
  obtain ⟨v, r1, r2⟩ := qev_sound hc (opd_R he) ⟨dst, op, T, pos_, aft, none⟩ h1
  exact .value M w σ _ v r1 (Step.refl _ _ _) hc r2 h2

/-! ### Ranges over maps -/
theorem RAll_getD : ∀ {ds : List D} {vs : List Value} (i : Nat), RAll M ds vs → R M (ds.getD i .top) (vs.toArray.getD i undef)
  | [], [], i, _ => by simp [R]
  | d :: ds, x :: xs, 0, h => by simp only [RAll] at h; simpa using h.1
  | d :: ds, x :: xs, i + 1, h => by
    simp only [RAll] at h
    have := RAll_getD i h.2
    simpa using this
  | [], _ :: _, _, h => by simp [RAll] at h
  | _ :: _, [], _, h => by simp [RAll] at h
theorem EntsR.all : ∀ {es : List (D × D)} {ms : List MapEntry}, EntsR M es ms → RAll M (es.map Prod.fst) (ms.map (·.key)) ∧ RAll M (es.map Prod.snd) (ms.map (·.val)) ∧ es.length = ms.length
  | [], [], _ => by simp [RAll]
  | e :: es, m :: ms, ⟨h1, h2⟩ => by
    obtain ⟨a, b, c⟩ := EntsR.all h2
    simp only [List.map_cons, RAll, List.length_cons]
    exact ⟨⟨h1.1, a⟩, ⟨h1.2, b⟩, by omega⟩
  | [], _ :: _, h => h.elim
  | _ :: _, [], h => h.elim

/-- What a range over a map knows of the map. -/
structure MIt (es : List (D × D)) where
  m : Nat
  ms : List MapEntry
  clock : Nat
  nodup : (ms.map (·.born)).Nodup
  old : ∀ x ∈ ms, x.born < clock
  len : es.length = ms.length
def MIt.at {es : List (D × D)} (it : MIt es) (i : Nat) : MapEntry := it.ms.getD i { key := undef, val := undef, born := 0 }
/-- The map, as a range sees it. -/
def MIt.mb {es : List (D × D)} (it : MIt es) : Box := .obj (.map it.ms.toArray it.clock) (fun i => (es.map Prod.fst ++ es.map Prod.snd).getD i .top) (it.ms.map (·.key) ++ it.ms.map (·.val)).toArray
/-- The range, which has seen the entries at these places. -/
def MIt.ib {es : List (D × D)} (it : MIt es) (pos : List Nat) : Box := .obj (.mapIter (some it.m) it.clock (pos.map fun i => (it.at i).born).toArray it.clock) (fun _ => .top) #[]

theorem MIt.at_mem {es : List (D × D)} (it : MIt es) {i : Nat} (h : i < es.length) : it.at i ∈ it.ms := by
  unfold MIt.at
  have h2 : i < it.ms.length := by rw [← it.len]; exact h
  rw [List.getD_eq_getElem?_getD, List.getElem?_eq_getElem h2]
  exact List.getElem_mem h2
theorem MIt.born_inj {es : List (D × D)} (it : MIt es) {i j : Nat} (hi : i < es.length) (hj : j < es.length) (h : (it.at i).born = (it.at j).born) : i = j := by
  have hi2 : i < it.ms.length := by rw [← it.len]; exact hi
  have hj2 : j < it.ms.length := by rw [← it.len]; exact hj
  have e : ∀ k (hk : k < it.ms.length), (it.at k).born = (it.ms.map (·.born))[k]'(by simpa using hk) := fun k hk => by
    unfold MIt.at
    rw [List.getD_eq_getElem?_getD, List.getElem?_eq_getElem hk]
    simp
  rw [e i hi2, e j hj2] at h
  exact (List.getElem_inj it.nodup).1 h
theorem MIt.mem_at {es : List (D × D)} (it : MIt es) {e : MapEntry} (h : e ∈ it.ms) : ∃ i, i < es.length ∧ it.at i = e := by
  obtain ⟨i, hi, rfl⟩ := List.getElem_of_mem h
  refine ⟨i, by rw [it.len]; exact hi, ?_⟩
  unfold MIt.at
  rw [List.getD_eq_getElem?_getD, List.getElem?_eq_getElem hi]
  rfl
theorem MIt.seen {es : List (D × D)} (it : MIt es) {pos : List Nat} (hpos : ∀ i ∈ pos, i < es.length) {i : Nat} (hi : i < es.length) : (pos.map fun i => (it.at i).born).toArray.contains (it.at i).born = decide (i ∈ pos) := by
  rw [Bool.eq_iff_iff]
  simp only [List.contains_toArray, decide_eq_true_eq, List.contains_iff_mem, List.mem_map]
  constructor
  · rintro ⟨j, hj, e⟩
    rw [← it.born_inj (hpos j hj) hi e]; exact hj
  · intro h
    exact ⟨i, h, rfl⟩
/-- A map becomes what a range sees. -/
theorem Conc.toIt (hc : Conc M w σ) {m : Nat} {es : List (D × D)} (hg : σ.get m = some (.map es)) : ∃ it : MIt es, it.m = m ∧ w.heap[m]? = some (.map it.ms.toArray it.clock) ∧ Conc M w (σ.upd m it.mb) ∧ Step M w σ M w (σ.upd m it.mb) := by
  obtain ⟨⟨ms, c, h1, h2, h3, h4⟩, hm⟩ := hc.box m _ (Store.mem_of_get hg)
  obtain ⟨a, b, hl⟩ := h2.all
  refine ⟨⟨m, ms, c, h3, h4, hl⟩, rfl, h1, ?_⟩
  exact hc.turn (Store.get_mem hg) rfl rfl rfl rfl (fun _ _ => rfl) (fun o v hv => by rw [hm o] at hv; cases hv) ⟨h1, hm, fun i => RAll_getD i (a.append b)⟩
theorem mpt_isSome {T : TypeId} (h : (mpt P T).isSome = true) : ∃ k e, P.underlying T = some (.map k e) := by
  cases hm : mpt P T with
  | none => rw [hm] at h; cases h
  | some p => exact ⟨p.1, p.2, mpt_some (k := p.1) (e := p.2) hm⟩
theorem vS_range {TT : TypeId} {x : Operand} {m : Nat} {es : List (D × D)} (hx : opd env x = .mp m) (hg : σ.get m = some (.map es)) (hT : (mpt P TT).isSome = true)
    (h : ∀ (it : MIt es), it.m = m → ∀ b, b ∉ σ.keys → vopsS P nt κ X os (env.put dst (.ptr b 0)) ((b, it.ib []) :: σ.upd m it.mb)) : vopsS P nt κ X (⟨dst, .range TT x, T, pos_, aft, none⟩ :: os) env σ := by
  intro M w a hc he
  have hr := opd_R he x
  rw [hx] at hr
  simp only [R] at hr
  obtain ⟨it, hm, hh, c1, s1⟩ := hc.toIt hg
  obtain ⟨k, e, hu⟩ := mpt_isSome hT
  have hrun : (Instr.range TT (.map (some m))).run P w = .ok (.pointer (some ⟨w.heap.size, 0, none⟩)) (w.alloc (.mapIter (some m) it.clock #[] it.clock)) := by
    unfold Instr.range
    simp only [Sem.run_bind, run_underlying' hu, Result.andThen_ok, Sem.run_pure, run_newObj, getObj, Sem.run, hh]
    rfl
  obtain ⟨h1, h2, h3⟩ := c1.newBox (o := .mapIter (some m) it.clock #[] it.clock) (x := it.ib []) ⟨by rw [alloc_heap_new, hm]; rfl, c1.mem_none, fun i => by simp only [R]⟩
  have hk : w.heap.size ∉ σ.keys := by rw [Store.keys_upd] at h3; exact h3
  have hex : (execOp a.eval ⟨dst, .range TT x, T, pos_, aft, none⟩).run P w = .ok (.value (.pointer (some ⟨w.heap.size, 0, none⟩))) (w.alloc (.mapIter (some m) it.clock #[] it.clock)) := by
    show (do pure (Next.value (← Instr.range TT (a.eval x))) : Sem Next).run P w = _
    rw [hr]
    exact lift_value hrun
  exact .value _ _ _ (.ptr w.heap.size 0) _ hex (s1.trans h2) h1 (by simp only [R]) (h it hm _ hk)
theorem vS_next {x : Operand} {b : Nat} {es : List (D × D)} (it : MIt es) (pos : List Nat) (hx : opd env x = .ptr b 0) (hb : σ.get b = some (it.ib pos)) (hm : σ.get it.m = some it.mb) (hpos : ∀ i ∈ pos, i < es.length)
    (h0 : (∀ i, i < es.length → i ∈ pos) → vopsS P nt κ X os (env.put dst (.tup [.bool false])) σ)
    (h1 : ∀ i, i < es.length → i ∉ pos → vopsS P nt κ X os (env.put dst (.tup [.bool true, .top, .top])) (σ.upd b (it.ib (pos ++ [i])))) : vopsS P nt κ X (⟨dst, .next x false, T, pos_, aft, none⟩ :: os) env σ := by
  intro M w a hc he
  have hr := opd_R he x
  rw [hx] at hr
  simp only [R] at hr
  obtain ⟨hbh, hbm, -⟩ := hc.box b _ (Store.mem_of_get hb)
  obtain ⟨hmh, -, -⟩ := hc.box it.m _ (Store.mem_of_get hm)
  have hex : ∀ {v : Value} {w' : World}, (Instr.next (.pointer (some ⟨b, 0, none⟩)) false T).run P w = .ok v w' → (execOp a.eval ⟨dst, .next x false, T, pos_, aft, none⟩).run P w = .ok (.value v) w' := by
    intro v w' h
    show (do pure (Next.value (← Instr.next (a.eval x) false T)) : Sem Next).run P w = _
    rw [hr]
    exact lift_value h
  rcases run_next_at (P := P) w T b it.m it.clock it.clock _ _ it.clock hbh hmh (fun x hx => it.old x (by simpa using hx)) (Nat.le_refl _) with ⟨hz, hrun⟩ | ⟨e, he2, w1, hw, hrun⟩
  · refine .value _ _ _ (.tup [.bool false]) _ (hex hrun) (Step.refl _ _ _) hc (by simp only [R]; exact ⟨_, rfl, by simp only [RAll, R, and_self]⟩) (h0 fun i hi => ?_)
    have hs := it.seen hpos hi
    unfold leftOf at hz
    by_cases hp : i ∈ pos
    · exact hp
    · exfalso
      rw [decide_eq_false hp] at hs
      have : it.at i ∈ (it.ms.toArray.filter fun e => !(pos.map fun i => (it.at i).born).toArray.contains e.born) := by
        rw [Array.mem_filter]
        exact ⟨by simpa using it.at_mem hi, by rw [hs]; rfl⟩
      have h2 := Array.eq_empty_of_size_eq_zero hz
      rw [h2] at this
      simp at this
  · unfold leftOf at he2
    rw [Array.mem_toList_iff, Array.mem_filter] at he2
    obtain ⟨hem, hec⟩ := he2
    obtain ⟨i, hi, hie⟩ := it.mem_at (e := e) (by simpa using hem)
    subst hie
    have hs := it.seen hpos hi
    have hnp : i ∉ pos := by
      intro hp
      rw [decide_eq_true hp] at hs
      rw [hs] at hec
      cases hec
    have hcw : Conc M w1 σ ∧ Step M w σ M w1 σ ∧ w1.heap = w.heap := by
      rcases hw with rfl | rfl
      · exact ⟨hc, Step.refl _ _ _, rfl⟩
      · exact ⟨hc.drew, Step.drew _ _ _, rfl⟩
    obtain ⟨cw, sw, hwh⟩ := hcw
    have hlt : b < w1.heap.size := by rw [hwh]; exact (Array.getElem?_eq_some_iff.1 hbh).1
    have hpush : (pos.map fun i => (it.at i).born).toArray.push (it.at i).born = ((pos ++ [i]).map fun i => (it.at i).born).toArray := by simp
    obtain ⟨c2, s2⟩ := cw.turn (w' := Go.ChangeMaps.setBlock w1 b (.mapIter (some it.m) it.clock ((pos.map fun i => (it.at i).born).toArray.push (it.at i).born) it.clock)) (b := b) (y := it.ib (pos ++ [i]))
      (Store.get_mem hb) (by simp [Go.ChangeMaps.setBlock]) rfl rfl rfl (fun k hk => by simp only [Go.ChangeMaps.setBlock, Array.getElem?_setIfInBounds]; rw [if_neg (fun e => hk e.symm)]) (fun o v hv => by rw [hbm o] at hv; cases hv)
      ⟨by rw [← hpush]; simp [Go.ChangeMaps.setBlock, hlt], hbm, fun i => by simp only [R]⟩
    exact .value _ _ _ (.tup [.bool true, .top, .top]) _ (hex hrun) (sw.trans s2) c2 (by simp only [R]; exact ⟨_, rfl, by simp only [RAll, R, and_self]⟩) (h1 i hi hnp)
theorem vS_entry {x : Operand} {b i : Nat} {es : List (D × D)} (it : MIt es) (pos : List Nat) (hx : opd env x = .ptr b 0) (hb : σ.get b = some (it.ib (pos ++ [i]))) (hm : σ.get it.m = some it.mb) (hi : i < es.length)
    (h : vopsS P nt κ X os (env.put dst (.tup [(es.getD i (.top, .top)).1, (es.getD i (.top, .top)).2])) σ) : vopsS P nt κ X (⟨dst, .entry x, T, pos_, aft, none⟩ :: os) env σ := by
  intro M w a hc he
  have hr := opd_R he x
  rw [hx] at hr
  simp only [R] at hr
  obtain ⟨hbh, hbm, -⟩ := hc.box b _ (Store.mem_of_get hb)
  obtain ⟨hmh, -, hme⟩ := hc.box it.m _ (Store.mem_of_get hm)
  have hpush : ((pos ++ [i]).map fun i => (it.at i).born).toArray = (pos.map fun i => (it.at i).born).toArray.push (it.at i).born := by simp
  rw [hpush] at hbh
  have hrun := run_entry_at (P := P) w b it.m it.clock _ _ it.clock (it.at i) hbh hmh (by simpa using it.at_mem hi) (by simpa using it.nodup)
  have hil : i < it.ms.length := by rw [← it.len]; exact hi
  have hk : R M (es.getD i (.top, .top)).1 (it.at i).key := by
    have h1 : R M ((es.map Prod.fst ++ es.map Prod.snd).getD i .top) _ := hme i
    have e1 : (es.map Prod.fst ++ es.map Prod.snd).getD i .top = (es.getD i (.top, .top)).1 := by
      rw [List.getD_eq_getElem?_getD, List.getD_eq_getElem?_getD, List.getElem?_append_left (by simpa using hi), List.getElem?_map, List.getElem?_eq_getElem hi]; rfl
    have e2 : (it.ms.map (·.key) ++ it.ms.map (·.val)).toArray.getD i undef = (it.at i).key := by
      unfold MIt.at
      simp [Array.getD_eq_getD_getElem?, List.getElem?_append_left, hil]
    rw [e1, e2] at h1
    exact h1
  have hv : R M (es.getD i (.top, .top)).2 (it.at i).val := by
    have h1 : R M ((es.map Prod.fst ++ es.map Prod.snd).getD (es.length + i) .top) _ := hme (es.length + i)
    have e1 : (es.map Prod.fst ++ es.map Prod.snd).getD (es.length + i) .top = (es.getD i (.top, .top)).2 := by
      rw [List.getD_eq_getElem?_getD, List.getD_eq_getElem?_getD, List.getElem?_append_right (by simp), List.length_map, Nat.add_sub_cancel_left, List.getElem?_map, List.getElem?_eq_getElem hi]; rfl
    have e2 : (it.ms.map (·.key) ++ it.ms.map (·.val)).toArray.getD (es.length + i) undef = (it.at i).val := by
      unfold MIt.at
      rw [it.len]
      simp [Array.getD_eq_getD_getElem?, List.getElem?_append_right, hil]
    rw [e1, e2] at h1
    exact h1
  have hex : (execOp a.eval ⟨dst, .entry x, T, pos_, aft, none⟩).run P w = .ok (.value (.tuple #[(it.at i).key, (it.at i).val])) w := by
    show (do pure (Next.value (← Instr.entry (a.eval x))) : Sem Next).run P w = _
    rw [hr]
    exact lift_value hrun
  exact .value _ _ _ _ _ hex (Step.refl _ _ _) hc (by simp only [R]; exact ⟨_, rfl, by simp only [RAll, and_true]; exact ⟨hk, hv⟩⟩) h
theorem len_map_out {xs : Array Operand} {ts : Array TypeId} {x : Operand} {m n : Nat} {TT : TypeId} (hxs : xs = #[x]) (hx : opd env x = .mp m) (hT : ts[0]? = some TT) (hTT : (mpt P TT).isSome = true) (hn : n ≤ lim)
    (hlen : ∀ M w, Conc M w σ → ∃ ms c, w.heap[m]? = some (.map ms c) ∧ ms.size = n) (h : vopsS P nt κ X os (env.put dst (.int .i64 n)) σ) : vopsS P nt κ X (⟨dst, .call ⟨.builtin .len, xs, ts⟩, T, pos_, aft, none⟩ :: os) env σ := by
  intro M w a hc he
  have hr := opd_R he x
  rw [hx] at hr
  simp only [R] at hr
  obtain ⟨ms, c, hh, hs⟩ := hlen M w hc
  obtain ⟨k, e, hu⟩ := mpt_isSome hTT
  subst hxs
  have hex : (execOp a.eval ⟨dst, .call ⟨.builtin .len, #[x], ts⟩, T, pos_, aft, none⟩).run P w = .ok (.value (.int .i64 n)) w := by
    have hb : (builtin .len ts T (#[x].map fun | .const _ => true | _ => false) #[.map (some m)]).run P w = .ok (.value (.int .i64 n)) w := by
      simp [builtin, Builtin.len_, hT, run_underlying' hu, getObj, Sem.run, hh, hs, goInt]
    simp only [execOp, resolve, Sem.run_bind, Sem.run_pure, Result.andThen_ok, invoke]
    have e1 : #[x].map a.eval = #[.map (some m)] := by simp [hr]
    rw [e1]
    exact hb
  exact .value _ _ _ _ _ hex (Step.refl _ _ _) hc (by simp only [R, true_and]; exact inR_len hn) h
theorem vS_lenM {xs : Array Operand} {ts : Array TypeId} {x : Operand} {m : Nat} {TT : TypeId} {es : List (D × D)} (hxs : xs = #[x]) (hx : opd env x = .mp m) (hg : σ.get m = some (.map es)) (hT : ts[0]? = some TT) (hTT : (mpt P TT).isSome = true) (hn : es.length ≤ lim)
    (h : vopsS P nt κ X os (env.put dst (.int .i64 es.length)) σ) : vopsS P nt κ X (⟨dst, .call ⟨.builtin .len, xs, ts⟩, T, pos_, aft, none⟩ :: os) env σ :=
  len_map_out hxs hx hT hTT hn (fun M w hc => by
    obtain ⟨⟨ms, c, h1, h2, h3, h4⟩, hm⟩ := hc.box m _ (Store.mem_of_get hg)
    exact ⟨_, _, h1, by simpa using h2.all.2.2.symm⟩) h
theorem vS_lenI {xs : Array Operand} {ts : Array TypeId} {x : Operand} {TT : TypeId} {es : List (D × D)} (it : MIt es) (hxs : xs = #[x]) (hx : opd env x = .mp it.m) (hg : σ.get it.m = some it.mb) (hT : ts[0]? = some TT) (hTT : (mpt P TT).isSome = true) (hn : es.length ≤ lim)
    (h : vopsS P nt κ X os (env.put dst (.int .i64 es.length)) σ) : vopsS P nt κ X (⟨dst, .call ⟨.builtin .len, xs, ts⟩, T, pos_, aft, none⟩ :: os) env σ :=
  len_map_out hxs hx hT hTT hn (fun M w hc => by
    obtain ⟨h1, _⟩ := hc.box it.m _ (Store.mem_of_get hg)
    exact ⟨_, _, h1, by simpa using it.len.symm⟩) h
/-- A call, in such a region. -/
theorem vS_c {f : Operand} {xs : Array Operand} {ts : Array TypeId} (h : CallK P (opd env f) (xs.toList.map (opd env)) (fun d σ' => vopsS P nt κ X os (env.put dst d) σ') X σ) : vopsS P nt κ X (⟨dst, .call ⟨.value f, xs, ts⟩, T, pos_, aft, none⟩ :: os) env σ := by
  intro M w a hc he
  exact nev_sound hc (imm := false) (opd_R he) ⟨dst, .call ⟨.value f, xs, ts⟩, T, pos_, aft, none⟩ h
end
end Go.Proofs.Ytgccnkihonmlbaa

/- Own layer, part 15: regions are right in whatever order. -/
import Derived.Test.YtgccnkihonmlbaaAe
namespace Go.Proofs.Ytgccnkihonmlbaa
open Go Go.RowKit
set_option linter.unusedSimpArgs false
set_option linter.unusedVariables false

section
variable {P : Program} {M : Mem} {w : World} {σ : Store} {r : Option Nat} {nt : Nat} {ops : Array Oper} {imm soft : List Nat} {gt : List (Nat × Nat)}

theorem napp_mono {ts : Array TypeId} {s x : D} {K K' : D → Store → Prop} (hk : ∀ d σ', K d σ' → K' d σ') (h : napp P σ ts s x K) : napp P σ ts s x K' := by
  unfold napp at h ⊢
  split at h
  · refine ⟨h.1, ?_⟩
    have h2 := h.2
    split at h2
    · exact ⟨h2.1, fun b c hb => hk _ _ (h2.2 b c hb)⟩
    · exact ⟨fun e => hk _ _ (h2.1 e), fun e b c hb => hk _ _ (h2.2 e b c hb)⟩
    · exact ⟨fun e => hk _ _ (h2.1 e), fun e b c hb => hk _ _ (h2.2 e b c hb)⟩
    · exact h2
  · exact h
theorem nappM_mono {ts : Array TypeId} {s x : D} {K K' : D → Store → Prop} (hk : ∀ d σ', K d σ' → K' d σ') (h : nappM P σ ts s x K) : nappM P σ ts s x K' := by
  unfold nappM at h ⊢
  split at h
  · refine ⟨h.1, ?_⟩
    have h2 := h.2
    split at h2
    · exact ⟨h2.1, fun e => hk _ _ (h2.2.1 e), fun e b c hb hc => hk _ _ (h2.2.2 e b c hb hc)⟩
    · split at h2
      · exact ⟨h2.1, fun e => hk _ _ (h2.2.1 e), fun e b c hb hc => hk _ _ (h2.2.2 e b c hb hc)⟩
      · exact h2
    · exact h2
  · exact h

theorem nappZ_mono {ts : Array TypeId} {s x : D} {K K' : D → Store → Prop} (hk : ∀ d σ', K d σ' → K' d σ') (h : nappZ P σ ts s x K) : nappZ P σ ts s x K' := by
  unfold nappZ at h ⊢
  split at h
  · split at h
    · exact ⟨h.1, fun b c hb hc => hk _ _ (h.2 b c hb hc)⟩
    · exact h
  · exact h

theorem nev_mono {ρ : Operand → D} {b : Bool} {K K' X : D → Store → Prop} (hk : ∀ d σ', K d σ' → K' d σ') (op : Op) (h : nev P b σ ρ K X op) : nev P b σ ρ K' X op := by
  cases op <;> try exact h.elim
  case alloc T =>
    simp only [nev] at h ⊢
    split at h
    · cases b
      · exact fun b hb => hk _ _ (h b hb)
      · exact hk _ _ h
    · exact h
  case box T x =>
    refine ⟨h.1, ?_⟩
    have h2 := h.2
    cases b
    · exact fun b hb => hk _ _ (h2 b hb)
    · exact hk _ _ h2
  case buildSlice T n ps =>
    simp only [nev] at h ⊢
    split at h
    · split at h
      · split at h
        · exact ⟨h.1, hk _ _ h.2⟩
        · exact h
      · exact h
    · exact h
  case store T a x =>
    simp only [nev, nstore] at h ⊢
    split at h
    · split at h
      · exact ⟨h.1, hk _ _ h.2⟩
      · exact ⟨h.1, hk _ _ h.2⟩
      · exact h
    · exact h
  case makeMap T r =>
    cases r with
    | none => exact fun b hb => hk _ _ (h b hb)
    | some _ => exact h
  case mapUpdate T m k x =>
    simp only [nev, nput] at h ⊢
    split at h
    · split at h
      · split at h
        · exact ⟨h.1, hk _ _ h.2⟩
        · exact h
      · exact h
    · exact h
  case insert T m k x =>
    simp only [nev, nput] at h ⊢
    split at h
    · split at h
      · split at h
        · exact ⟨h.1, hk _ _ h.2⟩
        · exact h
      · exact h
    · exact h
  case range T x =>
    simp only [nev] at h ⊢
    split at h
    · exact ⟨h.1, fun b hb => hk _ _ (h.2 b hb)⟩
    · exact h
  case next it isS =>
    cases isS with
    | false => exact h.elim
    | true =>
      simp only [nev] at h ⊢
      split at h
      · split at h
        · exact ⟨h.1, fun hp => hk _ _ (h.2.1 hp), fun hp => hk _ _ (h.2.2 hp)⟩
        · exact h
      · exact h
  case makeSlice T l c =>
    simp only [nev] at h ⊢
    split at h
    · split at h
      · refine ⟨h.1, ?_⟩
        have h2 := h.2
        cases b
        · exact fun b hb => hk _ _ (h2 b hb)
        · exact ⟨h2.1, fun b hb => hk _ _ (h2.2 b hb)⟩
      · exact h
    · exact h
  case call c =>
    obtain ⟨callee, xs, ts⟩ := c
    cases callee with
    | value f =>
      simp only [nev] at h ⊢
      split at h
      · refine ⟨h.1, h.2.imp (fun ⟨d, h1, h2⟩ => ⟨d, h1, hk _ _ h2⟩) fun h1 => h1.mono fun r σ' h2 => ?_⟩
        cases r
        · exact hk _ _ h2
        · exact h2
      · exact h
    | invoke f m => exact h.elim
    | builtin b' =>
      cases b' <;> try exact h.elim
      simp only [nev] at h ⊢
      split at h
      · cases b with
        | true => exact h.imp (nappM_mono hk) (nappZ_mono hk)
        | false => exact napp_mono hk h
      · exact h
  case panic x =>
    simp only [nev] at h ⊢
    split at h
    · exact h
    · exact h

theorem nv_mono {o : Oper} {env : Env} {κ κ' X : D → Store → Prop} (hk : ∀ d σ', κ d σ' → κ' d σ') (h : nv P imm gt o env σ κ X) : nv P imm gt o env σ κ' X := by
  unfold nv at h ⊢
  split at h
  · exact nev_mono hk _ h
  · split at h
    · exact h.imp (fun ⟨d, h1, h2⟩ => ⟨d, h1, hk _ _ h2⟩) (fun ⟨h1, h2⟩ => ⟨fun e => ⟨(h1 e).1, nev_mono hk _ (h1 e).2⟩, fun e => hk _ _ (h2 e)⟩)
    · exact h.elim

theorem qev_ext {ρ : Operand → D} {σ' : Store} (op : Op) (hx : rdSt op = false ∨ Ext σ σ') (h : (qev P σ ρ op).1) : qev P σ' ρ op = qev P σ ρ op := by
  rcases hx with hx | hx
  · cases op <;> first | (cases hx; done) | rfl | skip
    case call c =>
      obtain ⟨callee, xs, ts⟩ := c
      cases callee <;> rfl
  cases op <;> try rfl
  case lookup T x i ok =>
    simp only [qev, qlook] at h ⊢
    split at h
    · rename_i k e es hT hes
      have : ments σ' (ρ x) = some es := by
        unfold ments at hes ⊢
        split at hes
        · split at hes
          · rename_i hg; rw [(hx _ _ hg).resolve_left (by simp [Box.isTail])]; exact hes
          · cases hes
        · exact hes
        · cases hes
      rw [this, hT]
    · exact h.elim
  case convert s d x =>
    simp only [qev] at h ⊢
    cases e : ρ x with
    | arr b sz n cap =>
      rw [e] at h
      simp only [qconv] at h ⊢
      cases hg : σ.get b with
      | none => rw [hg] at h; exact h.elim
      | some bx =>
        rcases hx b bx hg with ht | ht
        · cases bx <;> simp [Box.isTail] at ht
          rw [hg] at h; exact h.elim
        · rw [ht]
    | _ => rfl
  case load T x =>
    simp only [qev, qload] at h ⊢
    split at h
    · rfl
    · rename_i g n b o hz hb
      split at h
      · rename_i cs hcs
        have : boxCells σ' b = some cs := by
          unfold boxCells at hcs ⊢
          split at hcs
          · rename_i hg; rw [(hx _ _ hg).resolve_left (by simp [Box.isTail])]; exact hcs
          · rename_i hg; rw [(hx _ _ hg).resolve_left (by simp [Box.isTail])]; exact hcs
          · cases hcs
        rw [this]
      · exact h.elim
    · exact h.elim
  case call c =>
    obtain ⟨callee, xs, ts⟩ := c
    cases callee <;> rfl

theorem gev_ext {env : Env} {σ' : Store} (op : Op) (hx : rdSt op = false ∨ Ext σ σ') (h : (gev P σ env op).1) : gev P σ' env op = gev P σ env op := by
  unfold gev at h ⊢
  split
  · rfl
  · rename_i hn
    have h2 : (qev P σ (opc env) op).1 := by
      split at h
      · exact absurd rfl (hn _ _ _)
      · exact h.2
    rw [qev_ext op hx h2]

theorem Ext.refl (σ : Store) : Ext σ σ := fun _ _ h => .inr h
theorem Ext.trans {σ1 σ2 σ3 : Store} (h : Ext σ1 σ2) (h' : Ext σ2 σ3) : Ext σ1 σ3 := fun b x hx => (h b x hx).elim .inl (h' b x)

/-- A quiet operation whose value was told at an earlier store. -/
theorem quiet_sound (hgt : GT ops gt) (hc : Conc M w σ) {env : Env} {a : Act} (he : EnvR M nt env a) {o : Oper} (hok : okOp nt o = true) {σq : Store} (hx : rdSt o.op = false ∨ Ext σq σ) (h : (qv P gt o env σq).1) :
    ∃ v, R M (qv P gt o env σq).2 v ∧ ∀ (nx : Act → World → Prop) (Q : Exit → Act → World → Prop), nx (a.put o.dst v) w → opGoal P r ops o Q nx a w := by
  have hd := quiet_not_defer hok
  unfold qv at h ⊢
  split at h
  · rename_i hg
    have e := qev_ext _ hx h
    obtain ⟨v, r1, r2⟩ := qev_sound hc (opd_R he) o (by rw [e]; exact h)
    rw [e] at r2
    refine ⟨v, r2, fun nx Q hn => ?_⟩
    unfold opGoal
    rw [if_pos (by simp [Region.wanted, hg])]
    refine ⟨fun _ _ => trivial, ?_⟩
    rw [Oper.semAt_eq _ _ _ hd, r1]
    exact hn
  · rename_i j want hg
    split at h
    · rename_i g hgv
      have hw := wanted_of hgt he hg hgv
      cases g with
      | true =>
        have h4 := h rfl
        have e := gev_ext _ hx h4
        obtain ⟨v, r1, r2⟩ := gev_sound (P := P) hc he o (by rw [e]; exact h4)
        rw [e] at r2
        refine ⟨v, R_cnd_true r2, fun nx Q hn => ?_⟩
        unfold opGoal
        rw [hw, if_pos rfl]
        refine ⟨fun _ _ => trivial, ?_⟩
        rw [Oper.semAt_eq _ _ _ hd, r1]
        exact hn
      | false =>
        refine ⟨undef, R_cnd_false, fun nx Q hn => ?_⟩
        unfold opGoal
        rw [hw, if_neg (by simp)]
        exact ⟨fun _ _ => trivial, hn⟩
    · exact h.elim

/-- A call that only computes, wherever it is made. -/
theorem soft_sound (hgt : GT ops gt) (hc : Conc M w σ) {env : Env} {a : Act} (he : EnvR M nt env a) {o : Oper} (hok : okOp nt o = true) {d : D} (h : (pv P gt o env d).1) {nx : Act → World → Prop} {Q : Exit → Act → World → Prop}
    (hK : ∀ M' w' a', Step M w σ M' w' σ → Conc M' w' σ → EnvR M' nt (env.put o.dst (pv P gt o env d).2) a' → a'.defers = a.defers → nx a' w') : opGoal P r ops o Q nx a w := by
  have hd := quiet_not_defer hok
  have hdst := okOp_dst hok
  have hdef : ∀ v, (a.put o.dst v).defers = a.defers := fun v => by cases o.dst <;> rfl
  have core : ∀ ρ : Operand → D, (∀ x ∈ o.op.operands, R M (ρ x) (a.eval x)) → PCallOp P ρ o.op d → NOut P M w σ (execOp a.eval o) (fun d' σ' => d' = d ∧ σ' = σ) (fun _ _ => False) := by
    intro ρ hρ h4
    refine nev_sound' (b := false) hc o hρ ?_
    unfold PCallOp at h4
    split at h4
    · rename_i f xs ts hop
      split at h4
      · rename_i fn fs cs hf
        rw [hop]
        simp only [nev, hf]
        exact ⟨h4.1, .inl ⟨d, h4.2, by simp⟩⟩
      · exact h4.elim
    · exact h4.elim
  unfold opGoal
  unfold pv at h hK
  split at h
  · rename_i hg
    simp only [hg] at hK
    rw [if_pos (by simp [Region.wanted, hg])]
    refine wpIn_of_out hd (core _ (fun x _ => opd_R he x) h) ?_ (fun _ _ _ _ _ _ _ _ hx => hx.elim)
    rintro M' w' σ' d' v' s1 c1 r3 ⟨rfl, rfl⟩
    exact hK M' w' _ s1 c1 ((he.mono s1.le).put hdst r3) (hdef _)
  · rename_i j want hg
    split at h
    · rename_i g hgv
      have hw := wanted_of hgt he hg hgv
      simp only [hg, hgv] at hK
      cases g with
      | true =>
        obtain ⟨h3, h4⟩ := h rfl
        rw [hw, if_pos rfl]
        refine wpIn_of_out hd (core _ (opc_R he o.op h3) h4) ?_ (fun _ _ _ _ _ _ _ _ hx => hx.elim)
        rintro M' w' σ' d' v' s1 c1 r3 ⟨rfl, rfl⟩
        exact hK M' w' _ s1 c1 ((he.mono s1.le).put hdst (R_cnd_true r3)) (hdef _)
      | false =>
        rw [hw, if_neg (by simp)]
        exact ⟨fun _ _ => trivial, hK M w _ (Step.refl _ _ _) hc (he.put hdst R_cnd_false) (hdef _)⟩
    · exact h.elim

/-- As 'SV', the results chosen on the way. -/
def SE (P : Program) (imm soft : List Nat) (gt : List (Nat × Nat)) (ops : Array Oper) (κ : Env → Store → Prop) (X : D → Store → Prop) : List (Nat × Option Store) → Env → Store → Prop
  | [], env, σ => κ env σ
  | (i, q) :: is, env, σ => match ops[i]? with
    | some o => bif softC soft o then ∃ d, (pv P gt o env d).1 ∧ SE P imm soft gt ops κ X is (env.put o.dst (pv P gt o env d).2) σ
      else bif quiet o.op then (rdSt o.op = false ∨ Ext (q.getD σ) σ) ∧ (qv P gt o env (q.getD σ)).1 ∧ SE P imm soft gt ops κ X is (env.put o.dst (qv P gt o env (q.getD σ)).2) σ
      else nv P imm gt o env σ (fun d σ' => (isSt o.op = true ∨ Ext σ σ') ∧ SE P imm soft gt ops κ X is (env.put o.dst d) σ') X
    | none => False

theorem SE_of_vdr {κ : Env → Store → Prop} {X : D → Store → Prop} : ∀ {is : List Nat} {os : List Oper} {env : Env} {σ : Store}, is.map (fun i => ops[i]?) = os.map some → vdr P imm soft gt κ X os env σ → SE P imm soft gt ops κ X (is.map fun i => (i, none)) env σ
  | [], [], _, _, _, h => h
  | i :: is, o :: os, env, σ, hm, h => by
    simp only [List.map_cons, List.cons.injEq] at hm
    obtain ⟨ho, hm⟩ := hm
    simp only [vdr] at h
    simp only [List.map_cons, SE, ho]
    cases hs : softC soft o with
    | true =>
      simp only [hs, cond_true] at h ⊢
      obtain ⟨d, h1, h2⟩ := h
      exact ⟨d, h1, SE_of_vdr hm h2⟩
    | false =>
    simp only [hs, cond_false] at h ⊢
    unfold vop at h
    cases hq : quiet o.op with
    | true =>
      simp only [hq, cond_true] at h ⊢
      exact ⟨.inr (Ext.refl _), h.1, SE_of_vdr hm h.2.2⟩
    | false =>
      simp only [hq, cond_false] at h ⊢
      exact nv_mono (fun d σ' hh => ⟨hh.1, SE_of_vdr hm hh.2⟩) h
  | [], _ :: _, _, _, hm, _ => by simp at hm
  | _ :: _, [], _, _, hm, _ => by simp at hm

/-! ### What an operation reads -/
theorem put_apart {env : Env} {dst : Option Nat} {d : D} {t : Nat} (h : ∀ x, dst = some x → t ≠ x) : env.put dst d t = env t := by
  cases dst with
  | none => rfl
  | some x => simp only [Env.put, Env.set]; rw [if_neg (h x rfl)]

theorem opd_apart {env : Env} {dst : Option Nat} {d : D} {o : Oper} (h : ∀ x, dst = some x → x ∉ o.looksAt ops) : ∀ x ∈ o.op.operands, opd (env.put dst d) x = opd env x := by
  intro x hx
  cases x with
  | tmp t =>
    refine put_apart fun y hy e => ?_
    subst e
    refine h t hy ?_
    unfold Oper.looksAt
    exact List.mem_append_left _ (List.mem_filterMap.2 ⟨.tmp t, by simpa using hx, rfl⟩)
  | const v => rfl
  | global g => rfl
  | func f => rfl

theorem gt_apart (hgt : GT ops gt) {env : Env} {dst : Option Nat} {d : D} {o : Oper} {j : Nat} {want : Bool} (hg : o.guard = some (j, want)) (h : ∀ x, dst = some x → x ∉ o.looksAt ops) :
    ((look gt j).bind fun t => gval (env.put dst d t) want) = (look gt j).bind fun t => gval (env t) want := by
  cases ht : look gt j with
  | none => rfl
  | some t =>
    simp only [Option.bind_some]
    rw [put_apart]
    intro x hx e
    subst e
    refine h t hx ?_
    unfold Oper.looksAt
    refine List.mem_append_right _ ?_
    rw [hg]
    replace ht := hgt _ _ ht
    unfold gtmp at ht
    simp [ht]

theorem cgs_apart {env env' : Env} {op : Op} (h : ∀ x ∈ op.operands, opd env x = opd env' x) : cgs env op = cgs env' op := by
  unfold cgs
  rw [Bool.eq_iff_iff, List.all_eq_true, List.all_eq_true]
  constructor
  · intro hh x hx; rw [← h x (by simpa using hx)]; exact hh x hx
  · intro hh x hx; rw [h x (by simpa using hx)]; exact hh x hx

theorem gev_congr {env env' : Env} {op : Op} (h : ∀ x ∈ op.operands, opd env x = opd env' x) : gev P σ env op = gev P σ env' op := by
  unfold gev
  split
  · rename_i c a b
    have h1 := h c (by simp [Op.operands])
    have h2 := h a (by simp [Op.operands])
    have h3 := h b (by simp [Op.operands])
    unfold opc
    rw [h1, h2, h3]
  · rw [cgs_apart h, qev_congr (ρ := opc env) (ρ' := opc env') _ fun x hx => by unfold opc; rw [h x hx]]

theorem qv_apart (hgt : GT ops gt) {env : Env} {dst : Option Nat} {d : D} {o : Oper} (h : ∀ x, dst = some x → x ∉ o.looksAt ops) : qv P gt o (env.put dst d) σ = qv P gt o env σ := by
  have h1 := opd_apart (env := env) (d := d) h
  unfold qv
  split
  · exact qev_congr _ h1
  · rename_i j want hg
    rw [gt_apart hgt hg h]
    split
    · rw [gev_congr h1]
    · rfl

theorem PCallOp_congr {ρ ρ' : Operand → D} (op : Op) (h : ∀ x ∈ op.operands, ρ x = ρ' x) (d : D) : PCallOp P ρ op d = PCallOp P ρ' op d := by
  cases op with
  | call c =>
    obtain ⟨callee, xs, ts⟩ := c
    cases callee with
    | value f =>
      have h1 : xs.toList.map ρ = xs.toList.map ρ' := List.map_congr_left fun x hx => h x (by simp only [Op.operands, Call.operands, Array.mem_append]; exact .inr (by simpa using hx))
      simp only [PCallOp, h1, h f (by simp [Op.operands, Call.operands])]
    | _ => rfl
  | _ => rfl

theorem nv_apart (hgt : GT ops gt) {env : Env} {dst : Option Nat} {d : D} {o : Oper} {κ X : D → Store → Prop} (h : ∀ x, dst = some x → x ∉ o.looksAt ops) : nv P imm gt o (env.put dst d) σ κ X = nv P imm gt o env σ κ X := by
  have h1 := opd_apart (env := env) (d := d) h
  have h2 : ∀ x ∈ o.op.operands, opc (env.put dst d) x = opc env x := fun x hx => by unfold opc; rw [h1 x hx]
  unfold nv
  split
  · exact nev_congr _ h1
  · rename_i j want hg
    rw [gt_apart hgt hg h]
    split
    · rw [cgs_apart h1, nev_congr _ h2]
      simp only [PCallOp_congr _ h2]
    · rfl

theorem put_comm {env : Env} {a b : Option Nat} {x y : D} (h : ∀ t, a = some t → b ≠ some t) : (env.put a x).put b y = (env.put b y).put a x := by
  cases a with
  | none => rfl
  | some s =>
    cases b with
    | none => rfl
    | some t =>
      have hst : s ≠ t := fun e => h s rfl (by rw [e])
      funext j
      simp only [Env.put, Env.set]
      by_cases h1 : j = t
      · subst h1; rw [if_pos rfl, if_neg (fun e => hst e.symm), if_pos rfl]
      · rw [if_neg h1]
        by_cases h2 : j = s
        · rw [if_pos h2, if_pos h2]
        · rw [if_neg h2, if_neg h2, if_neg h1]

theorem pv_apart (hgt : GT ops gt) {env : Env} {dst : Option Nat} {d d' : D} {o : Oper} (h : ∀ x, dst = some x → x ∉ o.looksAt ops) : pv P gt o (env.put dst d) d' = pv P gt o env d' := by
  have h1 := opd_apart (env := env) (d := d) h
  have h2 : ∀ x ∈ o.op.operands, opc (env.put dst d) x = opc env x := fun x hx => by unfold opc; rw [h1 x hx]
  unfold pv
  split
  · rw [PCallOp_congr _ h1]
  · rename_i j want hg
    rw [gt_apart hgt hg h]
    split
    · rw [cgs_apart h1, PCallOp_congr _ h2]
    · rfl

/-- A quiet operation, or a call that only computes, may wait. -/
theorem SE_swap (hgt : GT ops gt) {κ : Env → Store → Prop} {X : D → Store → Prop} {i j : Nat} {oi oj : Oper} {q qj : Option Store} {rest : List (Nat × Option Store)} {env : Env} (hi : ops[i]? = some oi) (hj : ops[j]? = some oj)
    (hq : (quiet oi.op || softC soft oi) = true) (hap : oi.apart ops oj = true) (hst : isSt oj.op = false ∨ rdSt oi.op = false) (h : SE P imm soft gt ops κ X ((i, q) :: (j, qj) :: rest) env σ) :
    ∃ q' qj', SE P imm soft gt ops κ X ((j, qj') :: (i, q') :: rest) env σ := by
  obtain ⟨a1, a2, a3⟩ := Oper.apart_spec hap
  cases hsi : softC soft oi with
  | true =>
    simp only [SE, hi, hsi, cond_true, hj] at h
    obtain ⟨d, h1, h3⟩ := h
    cases hsj : softC soft oj with
    | true =>
      simp only [hsj, cond_true] at h3
      obtain ⟨d2, h5, h6⟩ := h3
      rw [pv_apart hgt a1] at h5 h6
      refine ⟨q, qj, ?_⟩
      simp only [SE, hi, hsi, cond_true, hj, hsj]
      refine ⟨d2, h5, d, ?_, ?_⟩
      · rw [pv_apart hgt a3]; exact h1
      · rw [pv_apart hgt a3, ← put_comm a2]; exact h6
    | false =>
    simp only [hsj, cond_false] at h3
    cases hqj : quiet oj.op with
    | true =>
      simp only [hqj, cond_true] at h3
      obtain ⟨h4, h5, h6⟩ := h3
      rw [qv_apart hgt a1] at h5 h6
      refine ⟨q, qj, ?_⟩
      simp only [SE, hi, hsi, cond_true, cond_false, hj, hqj, hsj]
      refine ⟨h4, h5, d, ?_, ?_⟩
      · rw [pv_apart hgt a3]; exact h1
      · rw [pv_apart hgt a3, ← put_comm a2]; exact h6
    | false =>
      simp only [hqj, cond_false] at h3
      rw [nv_apart hgt a1] at h3
      refine ⟨q, qj, ?_⟩
      simp only [SE, hi, hsi, cond_true, hj, hqj, hsj, cond_false]
      refine nv_mono (fun d' σ' hh => ⟨hh.1, d, ?_, ?_⟩) h3
      · rw [pv_apart hgt a3]; exact h1
      · rw [pv_apart hgt a3, ← put_comm a2]; exact hh.2
  | false =>
  rw [hsi, Bool.or_false] at hq
  simp only [SE, hi, hsi, hq, cond_true, cond_false, hj] at h
  obtain ⟨h1, h2, h3⟩ := h
  cases hsj : softC soft oj with
  | true =>
    simp only [hsj, cond_true] at h3
    obtain ⟨d2, h5, h6⟩ := h3
    rw [pv_apart hgt a1] at h5 h6
    refine ⟨q, qj, ?_⟩
    simp only [SE, hi, hsi, hq, cond_true, cond_false, hj, hsj]
    refine ⟨d2, h5, h1, ?_, ?_⟩
    · rw [qv_apart hgt a3]; exact h2
    · rw [qv_apart hgt a3, ← put_comm a2]; exact h6
  | false =>
  simp only [hsj, cond_false] at h3
  cases hqj : quiet oj.op with
  | true =>
    simp only [hqj, cond_true] at h3
    obtain ⟨h4, h5, h6⟩ := h3
    rw [qv_apart hgt a1] at h5 h6
    refine ⟨q, qj, ?_⟩
    simp only [SE, hi, hq, hsi, hsj, cond_true, cond_false, hj, hqj]
    refine ⟨h4, h5, h1, ?_, ?_⟩
    · rw [qv_apart hgt a3]; exact h2
    · rw [qv_apart hgt a3, ← put_comm a2]; exact h6
  | false =>
    simp only [hqj, cond_false] at h3
    rw [nv_apart hgt a1] at h3
    refine ⟨some (q.getD σ), qj, ?_⟩
    simp only [SE, hi, hq, hsi, hsj, cond_true, hj, hqj, cond_false, Option.getD_some]
    refine nv_mono (fun d σ' hh => ⟨hh.1, ?_, ?_, ?_⟩) h3
    · rcases hst with hst | hst
      · rcases h1 with h1 | h1
        · exact .inl h1
        · rcases hh.1 with hs | hs
          · rw [hst] at hs; cases hs
          · exact .inr (h1.trans hs)
      · exact .inl hst
    · rw [qv_apart hgt a3]; exact h2
    · rw [qv_apart hgt a3, ← put_comm a2]; exact hh.2

theorem free_mono {listed : Array Bool} {i j : Nat} (h : Region.free .any ops listed i = true) : Region.free .any ops (listed.setIfInBounds j true) i = true := by
  unfold Region.free at h ⊢
  split
  · rename_i hi; simp only [hi] at h; exact h
  · rename_i oi hi
    simp only [hi] at h
    rw [List.all_eq_true] at h ⊢
    intro k hk
    have h1 := h k hk
    simp only [Bool.or_eq_true] at h1 ⊢
    rcases h1 with (h1 | h1) | h1
    · exact .inl (.inl h1)
    · refine .inl (.inr ?_)
      by_cases hjk : j = k
      · subst hjk
        rcases Nat.lt_or_ge j listed.size with hlt | hge
        · simp [hlt]
        · simp [Nat.not_lt.2 hge]
      · rw [getD_set_ne true hjk]; exact h1
    · exact .inr h1

/-- The order is kept when an operation is taken out. -/
theorem stOK_at (h : stOK ops = true) {i j : Nat} {oi oj : Oper} (hi : ops[i]? = some oi) (hj : ops[j]? = some oj) (hne : i ≠ j) (hno : ∀ e ∈ oj.after, Region.binds .any e = true → e.on ≠ i) : isSt oj.op = false ∨ rdSt oi.op = false := by
  unfold stOK at h
  rw [List.all_eq_true] at h
  have h1 := h j (List.mem_range.2 (Array.getElem?_eq_some_iff.1 hj).1)
  simp only [hj, Bool.or_eq_true, Bool.not_eq_true'] at h1
  rcases h1 with h1 | h1
  · exact .inl h1
  · unfold soloR at h1
    rw [List.all_eq_true] at h1
    have h2 := h1 i (List.mem_range.2 (Array.getElem?_eq_some_iff.1 hi).1)
    simp only [hi, Bool.or_eq_true, beq_iff_eq, hne, false_or, Bool.not_eq_true'] at h2
    rcases h2 with h2 | h2
    · exact .inr h2
    · obtain ⟨e, he, hb⟩ := Array.any_eq_true'.1 h2
      simp only [Bool.and_eq_true, beq_iff_eq] at hb
      exact absurd hb.2 (hno e he hb.1)

theorem chk_pull (hsto : stOK ops = true) : ∀ {ps : List Nat} {j : Nat} {rest : List Nat} {listed : Array Bool}, chk soft ops (ps ++ j :: rest) listed = true → j ∈ Region.ready .any ops listed → j ∉ ps →
    (∀ p ∈ ps, ∃ op oj, ops[p]? = some op ∧ ops[j]? = some oj ∧ (quiet op.op || softC soft op) = true ∧ op.apart ops oj = true ∧ (isSt oj.op = false ∨ rdSt op.op = false)) ∧ chk soft ops (ps ++ rest) (listed.setIfInBounds j true) = true
  | [], j, rest, listed, h, _, _ => by
    simp only [List.nil_append, chk, Bool.and_eq_true] at h
    exact ⟨by simp, h.2⟩
  | p :: ps, j, rest, listed, h, hj, hn => by
    simp only [List.mem_cons, not_or] at hn
    simp only [List.cons_append, chk, Bool.and_eq_true] at h
    obtain ⟨⟨h1, h2⟩, h3⟩ := h
    obtain ⟨hju, oj, hoj, hall⟩ := mem_ready.1 hj
    split at h2
    · rename_i op hop
      have hpr : p ∈ Region.ready .any ops listed := by simpa using h1
      have hpu := (mem_ready.1 hpr).1
      have hqf : (quiet op.op || softC soft op) = true ∧ Region.free .any ops listed p = true := by
        rcases Bool.or_eq_true _ _ ▸ h2 with h2 | h2
        · rwa [Bool.and_eq_true] at h2
        · rw [beq_iff_eq] at h2
          rw [h2] at hj
          simp at hj
          exact absurd hj hn.1
      have hno : ∀ e ∈ oj.after, Region.binds .any e = true → e.on ≠ p := fun e he hb heq => by
        have := hall e he hb
        rw [heq] at this
        rcases Nat.lt_or_ge p listed.size with h' | h'
        · simp [h'] at this hpu; rw [hpu] at this; cases this
        · simp [Array.getElem?_eq_none h'] at this
      have hap : op.apart ops oj = true := Region.free_spec hop hqf.2 j oj hoj hn.1 hju hno
      have hso := stOK_at hsto hop hoj (fun e => hn.1 e.symm) hno
      obtain ⟨i1, i2⟩ := chk_pull hsto h3 (ready_mono hj hn.1) hn.2
      refine ⟨fun x hx => ?_, ?_⟩
      · rcases List.mem_cons.1 hx with rfl | hx
        · exact ⟨op, oj, hop, hoj, hqf.1, hap, hso⟩
        · exact i1 x hx
      · simp only [List.cons_append, chk, Bool.and_eq_true]
        refine ⟨⟨by simpa using ready_mono hpr (fun e => hn.1 e.symm), ?_⟩, ?_⟩
        · simp only [hop, hqf.1, free_mono hqf.2, Bool.true_and, Bool.true_or]
        · rw [Array.setIfInBounds_comm _ _ hn.1]; exact i2
    · cases h2

theorem ready_in_chk : ∀ {c : List Nat} {j : Nat} {listed : Array Bool}, chk soft ops c listed = true → j ∈ Region.ready .any ops listed → j ∈ c
  | [], j, listed, h, hj => by
    simp only [chk, List.isEmpty_iff] at h
    rw [h] at hj; exact hj
  | i :: c, j, listed, h, hj => by
    by_cases e : j = i
    · subst e; simp
    · simp only [chk, Bool.and_eq_true] at h
      exact List.mem_cons_of_mem _ (ready_in_chk h.2 (ready_mono hj e))

theorem SE_pull (hgt : GT ops gt) {κ : Env → Store → Prop} {X : D → Store → Prop} {j : Nat} {qj : Option Store} {rest : List (Nat × Option Store)} : ∀ {ps : List (Nat × Option Store)} {env : Env} {σ : Store},
    (∀ p ∈ ps.map Prod.fst, ∃ op oj, ops[p]? = some op ∧ ops[j]? = some oj ∧ (quiet op.op || softC soft op) = true ∧ op.apart ops oj = true ∧ (isSt oj.op = false ∨ rdSt op.op = false)) → SE P imm soft gt ops κ X (ps ++ (j, qj) :: rest) env σ →
    ∃ qj' ps', ps'.map Prod.fst = ps.map Prod.fst ∧ SE P imm soft gt ops κ X ((j, qj') :: ps' ++ rest) env σ
  | [], env, σ, _, h => ⟨qj, [], rfl, h⟩
  | (p, q) :: ps, env, σ, hp, h => by
    obtain ⟨op, oj, h1, h2, h3, h4, h5⟩ := hp p (by simp)
    have h' := h
    have hp' : ∀ x ∈ ps.map Prod.fst, _ := fun x hx => hp x (by simp only [List.map_cons, List.mem_cons]; exact .inr hx)
    have fin : ∀ (qj' : Option Store) (ps' : List (Nat × Option Store)), ps'.map Prod.fst = ps.map Prod.fst → SE P imm soft gt ops κ X ((p, q) :: (j, qj') :: (ps' ++ rest)) env σ →
        ∃ qj' ps', ps'.map Prod.fst = ((p, q) :: ps).map Prod.fst ∧ SE P imm soft gt ops κ X ((j, qj') :: ps' ++ rest) env σ := by
      intro qj' ps' hps this
      obtain ⟨q', qj'', hsw⟩ := SE_swap hgt h1 h2 h3 h4 h5 this
      exact ⟨qj'', (p, q') :: ps', by simp [hps], by simpa using hsw⟩
    cases hso : softC soft op with
    | true =>
      simp only [List.cons_append, SE, h1, hso, cond_true] at h'
      obtain ⟨d, e1, e3⟩ := h'
      obtain ⟨qj', ps', hps, hs⟩ := SE_pull hgt hp' e3
      refine fin qj' ps' hps ?_
      rw [SE]
      simp only [h1, hso, cond_true]
      exact ⟨d, e1, hs⟩
    | false =>
      rw [hso, Bool.or_false] at h3
      simp only [List.cons_append, SE, h1, h3, hso, cond_true, cond_false] at h'
      obtain ⟨e1, e2, e3⟩ := h'
      obtain ⟨qj', ps', hps, hs⟩ := SE_pull hgt hp' e3
      refine fin qj' ps' hps ?_
      rw [SE]
      simp only [h1, h3, hso, cond_true, cond_false]
      exact ⟨e1, e2, hs⟩

theorem any_sound (hgt : GT ops gt) {Q : AE → Env → Store → Prop} (keep : List Nat) {M0 : Mem} {w0 : World} {σ0 : Store} {a0 : Act} {B : Nat} (hok : ops.toList.all (okOp nt) = true) (hsto : stOK ops = true) : ∀ (n : Nat) (c : List (Nat × Option Store)) (listed : Array Bool), c.length = n → chk soft ops (c.map Prod.fst) listed = true →
    ∀ (env : Env) (σ : Store) (M : Mem) (w : World) (a : Act),
    SE P imm soft gt ops (fun env σ => Q .normal (prune keep env) σ) (fun d σ => Q (.pan d) (fun _ => .top) σ) c env σ →
    Conc M w σ → EnvR M nt env a → DefOK B σ0 w0 a0.defers → a.defers = a0.defers → Step M0 w0 σ0 M w σ → wpAnyIn (WF r) 0 P .any ops (rgPost M0 w0 σ0 nt B Q) n listed a w
  | 0, c, listed, hl, hck, env, σ, M, w, a, h, hc, he, hd, hda, hs => by
    have hnil : c = [] := List.eq_nil_of_length_eq_zero hl
    subst hnil
    simp only [List.map_nil, chk, List.isEmpty_iff] at hck
    exact ⟨hck, M, _, σ, .normal, hs, hc, he.prune keep, hda ▸ hd.step hs, trivial, h⟩
  | n + 1, c, listed, hl, hck, env, σ, M, w, a, h, hc, he, hd, hda, hs => by
    refine ⟨fun h0 => ?_, fun j hj => ?_⟩
    · cases c with
      | nil => simp at hl
      | cons i c =>
        simp only [List.map_cons, chk, Bool.and_eq_true, h0] at hck
        simp at hck
    · have hm := ready_in_chk hck hj
      obtain ⟨ps, rest, hsplit, hnot⟩ : ∃ ps rest, c.map Prod.fst = ps ++ j :: rest ∧ j ∉ ps := by
        obtain ⟨ps, rest, h1, h2⟩ := List.append_of_mem hm |>.elim fun s h => h.elim fun t h => (⟨s, t, h, trivial⟩ : ∃ s t, c.map Prod.fst = s ++ j :: t ∧ True)
        clear h2
        have := List.eq_append_cons_of_mem hm
        obtain ⟨as, bs, h3, h4⟩ := this
        exact ⟨as, bs, h3, h4⟩
      obtain ⟨cs1, c2, rfl, hc1, hc2⟩ := List.map_eq_append_iff.1 hsplit
      cases c2 with
      | nil => simp at hc2
      | cons jq c3 =>
        obtain ⟨j', qj⟩ := jq
        simp only [List.map_cons, List.cons.injEq] at hc2
        obtain ⟨rfl, hc3⟩ := hc2
        rw [hsplit] at hck
        obtain ⟨p1, p2⟩ := chk_pull hsto hck hj hnot
        subst hc1
        obtain ⟨qj', ps', hps, hsv⟩ := SE_pull hgt p1 h
        obtain ⟨_, oj, hoj, _⟩ := mem_ready.1 hj
        have hoko : okOp nt oj = true := by
          rw [List.all_eq_true] at hok
          exact hok oj (by simpa using Array.mem_of_getElem? hoj)
        have hlen : (ps' ++ c3).length = n := by
          have : ps'.length = cs1.length := by have := congrArg List.length hps; simpa using this
          simp only [List.length_append, List.length_cons] at hl ⊢
          omega
        have hck' : chk soft ops ((ps' ++ c3).map Prod.fst) (listed.setIfInBounds j' true) = true := by
          rw [List.map_append, hps, hc3]; exact p2
        unfold wpOpIn
        simp only [hoj]
        simp only [List.cons_append, SE, hoj] at hsv
        cases hso : softC soft oj with
        | true =>
          simp only [hso, cond_true] at hsv
          obtain ⟨d, e1, e3⟩ := hsv
          refine soft_sound (r := r) (ops := ops) hgt hc he hoko e1 ?_
          intro M' w' a' s1 c1 e4 d1
          exact any_sound hgt keep hok hsto n (ps' ++ c3) _ hlen hck' _ σ M' w' a' e3 c1 e4 hd (d1.trans hda) (hs.trans s1)
        | false =>
        simp only [hso, cond_false] at hsv
        cases hq : quiet oj.op with
        | true =>
          simp only [hq, cond_true] at hsv
          obtain ⟨e1, e2, e3⟩ := hsv
          obtain ⟨v, r1, r2⟩ := quiet_sound (r := r) (ops := ops) hgt hc he hoko e1 e2
          refine r2 _ _ (any_sound hgt keep hok hsto n (ps' ++ c3) _ hlen hck' _ σ M w _ e3 hc (he.put (okOp_dst hoko) r1) hd ?_ hs)
          rw [← hda]; cases oj.dst <;> rfl
        | false =>
          simp only [hq, cond_false] at hsv
          refine vop_sound (imm := imm) (ops := ops) (r := r) hgt hc he hoko (κ := fun env' σ' => SE P imm soft gt ops (fun env σ => Q .normal (prune keep env) σ) (fun d σ => Q (.pan d) (fun _ => .top) σ) (ps' ++ c3) env' σ') (X := fun d σ => Q (.pan d) (fun _ => .top) σ) ?_ ?_ ?_
          · unfold vop
            simp only [hq, cond_false]
            exact nv_mono (fun d σ' hh => hh.2) hsv
          · intro M' w' σ' env' a' s1 c1 e1 d1 k1
            exact any_sound hgt keep hok hsto n (ps' ++ c3) _ hlen hck' env' σ' M' w' a' k1 c1 e1 hd (d1.trans hda) (hs.trans s1)
          · intro M' w' σ' d v s1 c1 r1 x1
            exact ⟨M', fun _ => .top, σ', .pan d, hs.trans s1, c1, ⟨he.1, fun _ => by simp only [R]⟩, hda ▸ hd.step (hs.trans s1), ⟨v, rfl, r1⟩, x1⟩

/-- A REGION IN WHATEVER ORDER: one order serves. -/
theorem rgp (keep imm soft : List Nat) (gt : List (Nat × Nat)) (perm : List Nat) {id : Nat} {l pl : List Oper} {env : Env} {σ : Store} {Q : AE → Env → Store → Prop} (hm : P.follows .mixedOrders = true) (hok : drOK nt soft l.toArray gt perm = true)
    (hpl : perm.map (fun i => l.toArray[i]?) = pl.map some)
    (h : ∀ (κ : Env → Store → Prop) (ξ : D → Store → Prop), (∀ env σ, Q .normal env σ → κ env σ) → (∀ d σ, Q (.pan d) (fun _ => .top) σ → ξ d σ) → vdr P imm soft gt (fun env σ => κ (prune keep env) σ) ξ pl env σ) : AWp P r nt (.region id l.toArray true) env σ Q := by
  intro M w a B hc he hd
  unfold drOK rgOK at hok
  simp only [Bool.and_eq_true, beq_iff_eq] at hok
  obtain ⟨⟨⟨⟨h1, h4⟩, h5⟩, h2⟩, h3⟩ := hok
  refine wpIn_region_any hm ?_
  have := any_sound (P := P) (r := r) (imm := imm) (soft := soft) (ops := l.toArray) (Q := Q) (GT.of h4) keep h1 h5 l.toArray.size (perm.map fun i => (i, none)) (Array.replicate l.toArray.size false) (by simp [h2]) (by simpa [Function.comp_def] using h3)
    env σ M w.drew a (SE_of_vdr hpl (h (fun env σ => Q .normal env σ) (fun d σ => Q (.pan d) (fun _ => .top) σ) (fun _ _ h => h) (fun _ _ h => h))) hc.drew he (a0 := a) hd rfl (M0 := M) (w0 := w) (σ0 := σ) (Step.drew M w σ)
  exact this

theorem range_get {α : Type} : ∀ (l : List α), (List.range l.length).map (fun i => l.toArray[i]?) = l.map some := by
  intro l
  apply List.ext_getElem
  · simp
  · intro i h1 h2
    simp at h1 h2
    simp [h1]

/-- A region in whatever order, of which the text's serves. -/
theorem rgd (keep imm soft : List Nat) (gt : List (Nat × Nat)) {id : Nat} {l : List Oper} {env : Env} {σ : Store} {Q : AE → Env → Store → Prop} (hm : P.follows .mixedOrders = true) (hok : drOK nt soft l.toArray gt (List.range l.length) = true)
    (h : ∀ (κ : Env → Store → Prop) (ξ : D → Store → Prop), (∀ env σ, Q .normal env σ → κ env σ) → (∀ d σ, Q (.pan d) (fun _ => .top) σ → ξ d σ) → vdr P imm soft gt (fun env σ => κ (prune keep env) σ) ξ l env σ) : AWp P r nt (.region id l.toArray true) env σ Q :=
  rgp keep imm soft gt (List.range l.length) hm hok (range_get l) h

end

end Go.Proofs.Ytgccnkihonmlbaa

/- Own layer, part 14: regions are right, in the text's order. -/
import Derived.Test.YtgccnkihonmlbaaAd
namespace Go.Proofs.Ytgccnkihonmlbaa
open Go Go.RowKit
set_option linter.unusedSimpArgs false
set_option linter.unusedVariables false

/-- An environment cut down to some places. -/
def prune (keep : List Nat) (env : Env) : Env := mk (keep.map fun i => (i, env i))

section
variable {P : Program} {M : Mem} {w : World} {σ : Store} {r : Option Nat} {nt : Nat} {ops : Array Oper} {imm : List Nat} {gt : List (Nat × Nat)}

theorem mk_R {M : Mem} {a : Act} {env : Env} (h : ∀ i, R M (env i) (a.tmps.getD i undef)) : ∀ (keep : List Nat) (i : Nat), R M (mk (keep.map fun i => (i, env i)) i) (a.tmps.getD i undef)
  | [], i => by simp only [List.map_nil, mk, R]
  | k :: ks, i => by
    simp only [List.map_cons, mk]
    split
    · rename_i e; subst e; exact h _
    · exact mk_R h ks i

theorem EnvR.prune {env : Env} {a : Act} (h : EnvR M nt env a) (keep : List Nat) : EnvR M nt (prune keep env) a := ⟨h.1, mk_R h.2 keep⟩

theorem opc_R {env : Env} {a : Act} (he : EnvR M nt env a) (op : Op) (h : cgs env op = true) : ∀ x ∈ op.operands, R M (opc env x) (a.eval x) := by
  intro x hx
  unfold cgs at h
  rw [List.all_eq_true] at h
  exact (opd_R he x).core (h x (by simpa using hx))

/-- What an operation reads. -/
theorem qev_congr {ρ ρ' : Operand → D} (op : Op) (h : ∀ x ∈ op.operands, ρ x = ρ' x) : qev P σ ρ op = qev P σ ρ' op := by
  cases op with
  | move x | assign x => simp only [qev, h x (by simp [Op.operands])]
  | unOp _ _ x | convert _ _ x | field _ x _ | fieldAddr _ x _ | load _ x | extract x _ | makeInterface _ x | nilCheck x => simp only [qev, h x (by simp [Op.operands])]
  | pick c a b => simp only [qev, h c (by simp [Op.operands]), h a (by simp [Op.operands]), h b (by simp [Op.operands])]
  | binOp _ _ x y _ => simp only [qev, h x (by simp [Op.operands]), h y (by simp [Op.operands])]
  | indexAddr _ x y | index _ x y => simp only [qev, h x (by simp [Op.operands]), h y (by simp [Op.operands])]
  | build T ps =>
    have : (ps.toList.map fun p => (p.1, ρ p.2)) = ps.toList.map fun p => (p.1, ρ' p.2) := List.map_congr_left fun p hp => by
      rw [h p.2 (by simp only [Op.operands, List.mem_toArray, List.mem_map]; exact ⟨p, hp, rfl⟩)]
    simp only [qev, this]
  | makeFunc f fs cs =>
    have h1 : fs.toList.map ρ = fs.toList.map ρ' := List.map_congr_left fun x hx => h x (by simp only [Op.operands, Array.mem_append]; exact .inl (by simpa using hx))
    have h2 : cs.toList.map ρ = cs.toList.map ρ' := List.map_congr_left fun x hx => h x (by simp only [Op.operands, Array.mem_append]; exact .inr (by simpa using hx))
    simp only [qev, h1, h2]
  | slice T x lo hi mx =>
    have h1 := h x (by simp [Op.operands])
    have h2 : lo.map ρ = lo.map ρ' := by cases lo with | none => rfl | some y => simp only [Option.map_some]; rw [h y (by simp [Op.operands])]
    have h3 : hi.map ρ = hi.map ρ' := by cases hi with | none => rfl | some y => simp only [Option.map_some]; rw [h y (by simp [Op.operands])]
    have h4 : mx.map ρ = mx.map ρ' := by cases mx with | none => rfl | some y => simp only [Option.map_some]; rw [h y (by simp [Op.operands])]
    simp only [qev, h1, h2, h3, h4]
  | call c =>
    obtain ⟨callee, xs, ts⟩ := c
    cases callee with
    | builtin b =>
      have h1 : xs.toList.map ρ = xs.toList.map ρ' := List.map_congr_left fun x hx => h x (by simp only [Op.operands, Call.operands, Array.mem_append]; exact .inr (by simpa using hx))
      simp only [qev, h1]
    | value f => rfl
    | invoke f m => rfl
  | lookup T x y ok => simp only [qev, h x (by simp [Op.operands]), h y (by simp [Op.operands])]
  | _ => rfl

theorem qev_sound' (hc : Conc M w σ) {ρ : Operand → D} {e : Operand → Value} (o : Oper) (hρ : ∀ x ∈ o.op.operands, R M (ρ x) (e x)) (h : (qev P σ ρ o.op).1) :
    ∃ v, (execOp e o).run P w = .ok (.value v) w ∧ R M (qev P σ ρ o.op).2 v := by
  haveI : DecidablePred fun x => x ∈ o.op.operands := fun x => Classical.propDecidable _
  have hcg : qev P σ ρ o.op = qev P σ (fun x => if x ∈ o.op.operands then ρ x else .top) o.op := qev_congr o.op fun x hx => (if_pos hx).symm
  rw [hcg] at h ⊢
  refine qev_sound hc (fun x => ?_) o h
  split
  · rename_i hx; exact hρ x hx
  · simp only [R]

theorem quiet_not_defer {o : Oper} (h : okOp nt o = true) : ∀ c, o.op ≠ .defer c := by
  intro c hc
  simp [okOp, hc] at h
theorem okOp_dst {o : Oper} (h : okOp nt o = true) : o.dst.all (· < nt) = true := by
  unfold okOp at h
  simp only [Bool.and_eq_true] at h
  exact h.1

def opGoal (P : Program) (r : Option Nat) (ops : Array Oper) (o : Oper) (Q : Exit → Act → World → Prop) (nx : Act → World → Prop) (a : Act) (w : World) : Prop :=
  if Region.wanted o (yielded ops a.tmps) then o.wpIn (WF r) 0 P a w nx Q else (∀ f, o.about P w a.eval = some f → (WF r).fn f) ∧ nx (a.put o.dst undef) w

theorem nev_congr {ρ ρ' : Operand → D} {b : Bool} {K X : D → Store → Prop} (op : Op) (h : ∀ x ∈ op.operands, ρ x = ρ' x) : nev P b σ ρ K X op = nev P b σ ρ' K X op := by
  cases op with
  | alloc T => rfl
  | box _ x | range _ x | panic x => simp only [nev, h x (by simp [Op.operands])]
  | next x b =>
    cases b with
    | true => simp only [nev, h x (by simp [Op.operands])]
    | false => rfl
  | mapUpdate _ x y z | insert _ x y z => simp only [nev, h x (by simp [Op.operands]), h y (by simp [Op.operands]), h z (by simp [Op.operands])]
  | makeMap T r => cases r <;> rfl
  | store _ x y | makeSlice _ x y => simp only [nev, h x (by simp [Op.operands]), h y (by simp [Op.operands])]
  | buildSlice T n ps =>
    have : (ps.toList.map fun p => (p.1, ρ p.2)) = ps.toList.map fun p => (p.1, ρ' p.2) := List.map_congr_left fun p hp => by
      rw [h p.2 (by simp only [Op.operands, List.mem_toArray, List.mem_map]; exact ⟨p, hp, rfl⟩)]
    simp only [nev, this]
  | call c =>
    obtain ⟨callee, xs, ts⟩ := c
    cases callee with
    | builtin b =>
      have h1 : xs.toList.map ρ = xs.toList.map ρ' := List.map_congr_left fun x hx => h x (by simp only [Op.operands, Call.operands, Array.mem_append]; exact .inr (by simpa using hx))
      cases b <;> first | rfl | simp only [nev, h1]
    | value f =>
      have h1 : xs.toList.map ρ = xs.toList.map ρ' := List.map_congr_left fun x hx => h x (by simp only [Op.operands, Call.operands, Array.mem_append]; exact .inr (by simpa using hx))
      simp only [nev, h1, h f (by simp [Op.operands, Call.operands])]
    | invoke f m => rfl
  | _ => rfl

theorem nev_sound' (hc : Conc M w σ) {b : Bool} {ρ : Operand → D} {e : Operand → Value} {K X : D → Store → Prop} (o : Oper) (hρ : ∀ x ∈ o.op.operands, R M (ρ x) (e x)) (h : nev P b σ ρ K X o.op) : NOut P M w σ (execOp e o) K X := by
  haveI : DecidablePred fun x => x ∈ o.op.operands := fun x => Classical.propDecidable _
  have hcg : nev P b σ ρ K X o.op = nev P b σ (fun x => if x ∈ o.op.operands then ρ x else .top) K X o.op := nev_congr o.op fun x hx => (if_pos hx).symm
  rw [hcg] at h
  refine nev_sound hc (fun x => ?_) o h
  split
  · rename_i hx; exact hρ x hx
  · simp only [R]

theorem gev_sound (hc : Conc M w σ) {env : Env} {a : Act} (he : EnvR M nt env a) (o : Oper) (h : (gev P σ env o.op).1) :
    ∃ v, (execOp a.eval o).run P w = .ok (.value v) w ∧ R M (gev P σ env o.op).2 v := by
  unfold gev at h ⊢
  split at h
  · rename_i c x y hop
    have hc1 := (opd_R he c).core h.1
    obtain ⟨v, h1, h2⟩ := pick_sound (P := P) (w := w) h.2 hc1 (opd_R he x) (opd_R he y)
    refine ⟨v, ?_, h2⟩
    rw [← h1]
    unfold execOp
    rw [hop]
  · exact qev_sound' (P := P) hc o (opc_R he o.op h.1) h.2

theorem R_cnd_true {d : D} {v : Value} (h : R M d v) : R M (.cnd true d) v := by simp only [R]; simp [h]
theorem R_cnd_false {d : D} : R M (.cnd false d) undef := by simp only [R]; simp

/-- ONE OPERATION. -/
theorem vop_sound (hgt : GT ops gt) (hc : Conc M w σ) {env : Env} {a : Act} (he : EnvR M nt env a) {o : Oper} (hok : okOp nt o = true) {κ : Env → Store → Prop} {X : D → Store → Prop} (h : vop P imm gt o env σ κ X)
    {nx : Act → World → Prop} {Q : Exit → Act → World → Prop}
    (hK : ∀ M' w' σ' env' a', Step M w σ M' w' σ' → Conc M' w' σ' → EnvR M' nt env' a' → a'.defers = a.defers → κ env' σ' → nx a' w')
    (hX : ∀ M' w' σ' d v, Step M w σ M' w' σ' → Conc M' w' σ' → R M' d v → X d σ' → Q (.panic [{ v, recovered := false }]) a w') : opGoal P r ops o Q nx a w := by
  have hd := quiet_not_defer hok
  have hdst := okOp_dst hok
  have hdef : ∀ v, (a.put o.dst v).defers = a.defers := fun v => by cases o.dst <;> rfl
  unfold opGoal
  unfold vop at h
  cases hq : quiet o.op with
  | true =>
    simp only [hq, cond_true] at h
    obtain ⟨h1, h2⟩ := h
    unfold qv at h1 h2
    split at h1
    · rename_i hg
      obtain ⟨v, r1, r2⟩ := qev_sound hc (opd_R he) o h1
      rw [if_pos (by simp [Region.wanted, hg])]
      refine wpIn_of_out (K := fun d σ' => d = (qev P σ (opd env) o.op).2 ∧ σ' = σ) (X := fun _ _ => False) hd (.value M w σ _ v r1 (Step.refl _ _ _) hc r2 ⟨rfl, rfl⟩) ?_ (fun _ _ _ _ _ _ _ _ hx => hx.elim)
      rintro M' w' σ' d v' s1 c1 r3 ⟨rfl, rfl⟩
      simp only [hg] at h2
      exact hK M' w' _ _ _ s1 c1 ((he.mono s1.le).put hdst r3) (hdef _) h2
    · rename_i j want hg
      split at h1
      · rename_i g hgv
        have hw := wanted_of hgt he hg hgv
        simp only [hg, hgv] at h2
        rw [hw]
        cases g with
        | true =>
          obtain ⟨v, r1, r2⟩ := gev_sound (P := P) hc he o (h1 rfl)
          rw [if_pos rfl]
          refine wpIn_of_out (K := fun d σ' => d = (gev P σ env o.op).2 ∧ σ' = σ) (X := fun _ _ => False) hd (.value M w σ _ v r1 (Step.refl _ _ _) hc r2 ⟨rfl, rfl⟩) ?_ (fun _ _ _ _ _ _ _ _ hx => hx.elim)
          rintro M' w' σ' d v' s1 c1 r3 ⟨rfl, rfl⟩
          exact hK M' w' _ _ _ s1 c1 ((he.mono s1.le).put hdst (R_cnd_true r3)) (hdef _) h2
        | false =>
          rw [if_neg (by simp)]
          exact ⟨fun _ _ => trivial, hK M w σ _ _ (Step.refl _ _ _) hc (he.put hdst R_cnd_false) (hdef _) h2⟩
      · exact h1.elim
  | false =>
    simp only [hq, cond_false] at h
    unfold nv at h
    split at h
    · rename_i hg
      have out := nev_sound hc (opd_R he) o h
      rw [if_pos (by simp [Region.wanted, hg])]
      exact wpIn_of_out hd out (fun M' w' σ' d v s1 c1 r3 hk => hK M' w' σ' _ _ s1 c1 ((he.mono s1.le).put hdst r3) (hdef _) hk) hX
    · rename_i j want hg
      split at h
      · rename_i g hgv
        have hw := wanted_of hgt he hg hgv
        rw [hw]
        rcases h with ⟨d, h1, h2⟩ | ⟨h1, h2⟩
        · cases g with
          | true =>
            obtain ⟨h3, h4⟩ := h1 rfl
            rw [if_pos rfl]
            have out : NOut P M w σ (execOp a.eval o) (fun d' σ' => d' = d ∧ σ' = σ) (fun _ _ => False) := by
              refine nev_sound' (b := false) hc o (opc_R he o.op h3) ?_
              unfold PCallOp at h4
              split at h4
              · rename_i f xs ts hop
                split at h4
                · rename_i fn fs cs hf
                  rw [hop]
                  simp only [nev, hf]
                  exact ⟨h4.1, .inl ⟨d, h4.2, by simp⟩⟩
                · exact h4.elim
              · exact h4.elim
            refine wpIn_of_out hd out ?_ (fun _ _ _ _ _ _ _ _ hx => hx.elim)
            rintro M' w' σ' d' v' s1 c1 r3 ⟨rfl, rfl⟩
            exact hK M' w' _ _ _ s1 c1 ((he.mono s1.le).put hdst (R_cnd_true r3)) (hdef _) h2
          | false =>
            rw [if_neg (by simp)]
            exact ⟨fun _ _ => trivial, hK M w σ _ _ (Step.refl _ _ _) hc (he.put hdst R_cnd_false) (hdef _) h2⟩
        · cases g with
          | true =>
            obtain ⟨h3, h4⟩ := h1 rfl
            rw [if_pos rfl]
            exact wpIn_of_out hd (nev_sound' hc o (opc_R he o.op h3) h4) (fun M' w' σ' d v s1 c1 r3 hk => hK M' w' σ' _ _ s1 c1 ((he.mono s1.le).put hdst r3) (hdef _) hk) hX
          | false =>
            rw [if_neg (by simp)]
            exact ⟨fun _ _ => trivial, hK M w σ _ _ (Step.refl _ _ _) hc (he.put hdst (by simp only [R])) (hdef _) (h2 rfl)⟩
      · exact h.elim

theorem vops_sound (hgt : GT ops gt) {Q : AE → Env → Store → Prop} (keep : List Nat) {M0 : Mem} {w0 : World} {σ0 : Store} {a0 : Act} {B : Nat} : ∀ (l : List Oper) (k : Nat), (∀ j, l[j]? = ops[k + j]?) → l.all (okOp nt) = true → ∀ (env : Env) (σ : Store) (M : Mem) (w : World) (a : Act),
    vops P imm gt (fun env σ => Q .normal (prune keep env) σ) (fun d σ => Q (.pan d) (fun _ => .top) σ) l env σ →
    Conc M w σ → EnvR M nt env a → DefOK B σ0 w0 a0.defers → a.defers = a0.defers → Step M0 w0 σ0 M w σ → wpOpsIn (WF r) 0 P ops (rgPost M0 w0 σ0 nt B Q) (List.range' k l.length) a w
  | [], k, _, _, env, σ, M, w, a, h, hc, he, hd, hda, hs => by
    simp only [List.length_nil, List.range'_zero, wpOpsIn]
    exact ⟨M, _, σ, .normal, hs, hc, he.prune keep, hda ▸ hd.step hs, trivial, h⟩
  | o :: l, k, hl, hok, env, σ, M, w, a, h, hc, he, hd, hda, hs => by
    have h0 : ops[k]? = some o := by simpa using (hl 0).symm
    simp only [List.all_cons, Bool.and_eq_true] at hok
    simp only [List.length_cons, List.range'_succ]
    rw [wpOpsIn_cons]
    unfold wpOpIn
    simp only [h0]
    refine vop_sound (r := r) hgt hc he hok.1 h ?_ ?_
    · intro M' w' σ' env' a' s1 c1 e1 d1 k1
      exact vops_sound hgt keep l (k + 1) (fun j => by have := hl (j + 1); simpa [Nat.add_assoc, Nat.add_comm 1 j] using this) hok.2 env' σ' M' w' a' k1 c1 e1 hd (d1.trans hda) (hs.trans s1)
    · intro M' w' σ' d v s1 c1 r1 x1
      exact ⟨M', fun _ => .top, σ', .pan d, hs.trans s1, c1, ⟨he.1, fun _ => by simp only [R]⟩, hda ▸ hd.step (hs.trans s1), ⟨v, rfl, r1⟩, x1⟩

/-- A REGION IN THE TEXT's ORDER. -/
theorem rg (keep imm : List Nat) (gt : List (Nat × Nat)) {id : Nat} {l : List Oper} {env : Env} {σ : Store} {Q : AE → Env → Store → Prop} (hok : rgOK nt l.toArray gt = true)
    (h : ∀ (κ : Env → Store → Prop) (ξ : D → Store → Prop), (∀ env σ, Q .normal env σ → κ env σ) → (∀ d σ, Q (.pan d) (fun _ => .top) σ → ξ d σ) → vops P imm gt (fun env σ => κ (prune keep env) σ) ξ l env σ) : AWp P r nt (.region id l.toArray false) env σ Q := by
  intro M w a B hc he hd
  refine wpIn_region ?_
  simp only [rgOK, Bool.and_eq_true] at hok
  have := vops_sound (P := P) (r := r) (imm := imm) (ops := l.toArray) (Q := Q) (GT.of hok.2) keep l 0 (by simp) (by simpa using hok.1) env σ M w a (h (fun env σ => Q .normal env σ) (fun d σ => Q (.pan d) (fun _ => .top) σ) (fun _ _ h => h) (fun _ _ h => h)) hc he hd rfl (Step.refl _ _ _)
  rw [List.range_eq_range', show l.toArray.size = l.length from by simp]
  exact this

end

end Go.Proofs.Ytgccnkihonmlbaa

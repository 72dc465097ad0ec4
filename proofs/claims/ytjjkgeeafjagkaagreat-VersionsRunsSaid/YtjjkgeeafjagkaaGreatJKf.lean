/- Regions where two orders matter, a load and a store among them: what is bound is asked for along each way alone. -/
import Derived.Test.YtjjkgeeafjagkaaGreatVd
namespace Go.Proofs.YtjjkgeeafjagkaaGreat
open Go Go.RowKit
set_option linter.unusedSimpArgs false
set_option linter.unusedVariables false
section
variable {P : Program} {M : Mem} {w : World} {σ : Store} {r : Option Nat} {nt : Nat} {ops : Array Oper} {imm : List Nat} {soft : List Nat} {gt : List (Nat × Nat)}
/-- The one may be put behind the other. -/
def cfl (ops : Array Oper) (i j : Nat) : Bool := match ops[i]?, ops[j]? with
  | some oi, some oj => !isSt oj.op || !rdSt oi.op || oj.after.any (fun e => Region.binds .any e && e.on == i)
  | _, _ => true
theorem cfl_at {i j : Nat} {oi oj : Oper} (h : cfl ops i j = true) (hi : ops[i]? = some oi) (hj : ops[j]? = some oj) (hno : ∀ e ∈ oj.after, Region.binds .any e = true → e.on ≠ i) : isSt oj.op = false ∨ rdSt oi.op = false := by
  unfold cfl at h
  simp only [hi, hj, Bool.or_eq_true, Bool.not_eq_true'] at h
  rcases h with (h | h) | h
  · exact .inl h
  · exact .inr h
  · rw [Array.any_eq_true] at h
    obtain ⟨k, hk, he⟩ := h
    rw [Bool.and_eq_true, beq_iff_eq] at he
    exact absurd he.2 (hno _ (Array.getElem_mem hk) he.1)
def pw (r : Nat → Nat → Bool) : List Nat → Bool
  | [] => true
  | a :: l => l.all (r a) && pw r l
theorem pw_mono {r : Nat → Nat → Bool} : ∀ {l m : List Nat}, l.Sublist m → pw r m = true → pw r l = true
  | _, _, .slnil, _ => rfl
  | _, _, .cons a h, hm => by
    simp only [pw, Bool.and_eq_true] at hm
    exact pw_mono h hm.2
  | _, _, .cons_cons a h, hm => by
    simp only [pw, Bool.and_eq_true, List.all_eq_true] at hm ⊢
    exact ⟨fun x hx => hm.1 x (h.subset hx), pw_mono h hm.2⟩
theorem pw_pair {r : Nat → Nat → Bool} {j : Nat} {rest : List Nat} : ∀ {ps : List Nat} {p : Nat}, pw r (ps ++ j :: rest) = true → p ∈ ps → r p j = true
  | [], _, _, h => by cases h
  | a :: ps, p, h, hp => by
    simp only [List.cons_append, pw, Bool.and_eq_true, List.all_eq_true] at h
    rcases List.mem_cons.1 hp with rfl | hp
    · exact h.1 j (by simp)
    · exact pw_pair h.2 hp
def TS (ops : Array Oper) : Tr → List Nat → Bool
  | .fin, c => pw (cfl ops) c
  | .br i pi ti k pk tk, c => (c.all (fun p => cfl ops p i) && TS ops ti (c ++ pi)) && (c.all (fun p => cfl ops p k) && TS ops tk (c ++ pk))
theorem TS_pw : ∀ {T : Tr} {c : List Nat}, TS ops T c = true → pw (cfl ops) c = true
  | .fin, _, h => h
  | .br i pi ti k pk tk, c, h => by
    simp only [TS, Bool.and_eq_true] at h
    exact pw_mono (List.sublist_append_left _ _) (TS_pw h.1.2)
theorem TS_mono : ∀ {T : Tr} {c d : List Nat}, c.Sublist d → TS ops T d = true → TS ops T c = true
  | .fin, _, _, hs, h => pw_mono hs h
  | .br i pi ti k pk tk, c, d, hs, h => by
    simp only [TS, Bool.and_eq_true, List.all_eq_true] at h ⊢
    exact ⟨⟨fun x hx => h.1.1 x (hs.subset hx), TS_mono (List.Sublist.append_right hs _) h.1.2⟩, fun x hx => h.2.1 x (hs.subset hx), TS_mono (List.Sublist.append_right hs _) h.2.2⟩
theorem chkF_pull2 {F G : Array Bool → Bool} {j : Nat} {ps0 : List Nat} (hcf : ∀ p ∈ ps0, cfl ops p j = true) (hFG : ∀ l, F l = true → G (l.setIfInBounds j true) = true) : ∀ {ps : List Nat} {listed : Array Bool}, (∀ p ∈ ps, p ∈ ps0) → chkF soft ops F ps listed = true → j ∈ Region.ready .any ops listed → j ∉ ps →
    (∀ p ∈ ps, ∃ op oj, ops[p]? = some op ∧ ops[j]? = some oj ∧ (quiet op.op || softC soft op) = true ∧ op.apart ops oj = true ∧ (isSt oj.op = false ∨ rdSt op.op = false)) ∧ chkF soft ops G ps (listed.setIfInBounds j true) = true
  | [], listed, _, h, _, _ => ⟨by simp, hFG _ h⟩
  | p :: ps, listed, hsub, h, hj, hn => by
    simp only [List.mem_cons, not_or] at hn
    simp only [chkF, Bool.and_eq_true] at h
    obtain ⟨⟨h1, h2⟩, h3⟩ := h
    obtain ⟨hju, oj, hoj, hall⟩ := mem_ready.1 hj
    split at h2
    · rename_i op hop
      have hpr : p ∈ Region.ready .any ops listed := by simpa using h1
      have hpu := (mem_ready.1 hpr).1
      have hqf : (quiet op.op || softC soft op) = true ∧ Region.free .any ops listed p = true := by
        rcases Bool.or_eq_true _ _ ▸ h2 with h2 | h2
        · rwa [Bool.and_eq_true] at h2
        · rw [beq_iff_eq] at h2
          rw [h2] at hj
          simp at hj
          exact absurd hj hn.1
      have hno : ∀ e ∈ oj.after, Region.binds .any e = true → e.on ≠ p := fun e he hb heq => by
        have := hall e he hb
        rw [heq] at this
        rcases Nat.lt_or_ge p listed.size with h' | h'
        · simp [h'] at this hpu; rw [hpu] at this; cases this
        · simp [Array.getElem?_eq_none h'] at this
      have hap : op.apart ops oj = true := Region.free_spec hop hqf.2 j oj hoj hn.1 hju hno
      have hso := cfl_at (hcf p (hsub p (by simp))) hop hoj hno
      obtain ⟨i1, i2⟩ := chkF_pull2 hcf hFG (fun x hx => hsub x (List.mem_cons_of_mem _ hx)) h3 (ready_mono hj hn.1) hn.2
      refine ⟨fun x hx => ?_, ?_⟩
      · rcases List.mem_cons.1 hx with rfl | hx
        · exact ⟨op, oj, hop, hoj, hqf.1, hap, hso⟩
        · exact i1 x hx
      · simp only [chkF, Bool.and_eq_true]
        refine ⟨⟨by simpa using ready_mono hpr (fun e => hn.1 e.symm), ?_⟩, ?_⟩
        · simp only [hop, hqf.1, free_mono hqf.2, Bool.true_and, Bool.true_or]
        · rw [Array.setIfInBounds_comm _ _ hn.1]; exact i2
    · cases h2

theorem any_tree2 (hgt : GT ops gt) {Q : AE → Env → Store → Prop} (keep : List Nat) {M0 : Mem} {w0 : World} {σ0 : Store} {a0 : Act} {B : Nat} (hok : ops.toList.all (okOp nt) = true) : ∀ (n : Nat) (T : Tr) (c : List (Nat × Option Store)) (listed : Array Bool), c.length + T.size = n → chkF soft ops (chkTr soft ops T) (c.map Prod.fst) listed = true → TS ops T (c.map Prod.fst) = true →
    ∀ (env : Env) (σ : Store) (M : Mem) (w : World) (a : Act),
    SE P imm soft gt ops (SET P imm soft gt ops (fun env σ => Q .normal (prune keep env) σ) (fun d σ => Q (.pan d) (fun _ => .top) σ) T) (fun d σ => Q (.pan d) (fun _ => .top) σ) c env σ →
    Conc M w σ → EnvR M nt env a → DefOK B σ0 w0 a0.defers → a.defers = a0.defers → Step M0 w0 σ0 M w σ → wpAnyIn (WF r) 0 P .any ops (rgPost M0 w0 σ0 nt B Q) n listed a w
  | 0, T, c, listed, hl, hck, hts, env, σ, M, w, a, h, hc, he, hd, hda, hs => by
    have hnil : c = [] := List.eq_nil_of_length_eq_zero (by omega)
    subst hnil
    cases T with
    | br => simp only [Tr.size] at hl; omega
    | fin =>
      simp only [List.map_nil, chkF, chkTr, List.isEmpty_iff] at hck
      exact ⟨hck, M, _, σ, .normal, hs, hc, he.prune keep, hda ▸ hd.step hs, trivial, h⟩
  | n + 1, T, c, listed, hl, hck, hts, env, σ, M, w, a, h, hc, he, hd, hda, hs => by
    refine ⟨fun h0 => ?_, fun j hj => ?_⟩
    · cases c with
      | nil =>
        cases T with
        | fin => simp [Tr.size] at hl
        | br i pi ti k pk tk =>
          simp only [List.map_nil, chkF, chkTr, h0, Bool.and_eq_true] at hck
          simp at hck
      | cons i c =>
        simp only [List.map_cons, chkF, Bool.and_eq_true, h0] at hck
        simp at hck
    · obtain ⟨cs1, qj, c3, T', p1, hck0, hse, hlen0, hts0⟩ : ∃ (cs1 : List (Nat × Option Store)) (qj : Option Store) (c3 : List (Nat × Option Store)) (T' : Tr),
          (∀ p ∈ cs1.map Prod.fst, ∃ op oj, ops[p]? = some op ∧ ops[j]? = some oj ∧ (quiet op.op || softC soft op) = true ∧ op.apart ops oj = true ∧ (isSt oj.op = false ∨ rdSt op.op = false)) ∧
          chkF soft ops (chkTr soft ops T') (cs1.map Prod.fst ++ c3.map Prod.fst) (listed.setIfInBounds j true) = true ∧
          SE P imm soft gt ops (SET P imm soft gt ops (fun env σ => Q .normal (prune keep env) σ) (fun d σ => Q (.pan d) (fun _ => .top) σ) T') (fun d σ => Q (.pan d) (fun _ => .top) σ) (cs1 ++ (j, qj) :: c3) env σ ∧
          cs1.length + c3.length + T'.size = n ∧ TS ops T' (cs1.map Prod.fst ++ c3.map Prod.fst) = true := by
        by_cases hm : j ∈ c.map Prod.fst
        · obtain ⟨ps, rest, hsplit, hnot⟩ := List.eq_append_cons_of_mem hm
          obtain ⟨cs1, c2, rfl, hc1, hc2⟩ := List.map_eq_append_iff.1 hsplit
          cases c2 with
          | nil => simp at hc2
          | cons jq c3 =>
            obtain ⟨j', qj⟩ := jq
            simp only [List.map_cons, List.cons.injEq] at hc2
            obtain ⟨rfl, hc3⟩ := hc2
            rw [hsplit] at hts
            rw [hsplit, chkF_append] at hck
            obtain ⟨p1, p2⟩ := chkF_pull2 (G := fun l => chkF soft ops (chkTr soft ops T) rest l) (fun p hp => pw_pair (TS_pw hts) hp) (fun l hl => by simp only [chkF, Bool.and_eq_true] at hl; exact hl.2) (fun _ h => h) hck hj hnot
            rw [← chkF_append] at p2
            refine ⟨cs1, qj, c3, T, hc1 ▸ p1, ?_, h, ?_, ?_⟩
            · rw [hc1, hc3]; exact p2
            · simp only [List.length_append, List.length_cons] at hl; omega
            · rw [hc1, hc3]; exact TS_mono (List.Sublist.append_left (List.sublist_cons_self _ _) _) hts
        · obtain ⟨l, hFl, hjl⟩ := ready_in_chkF hck hj hm
          cases T with
          | fin =>
            simp only [chkTr, List.isEmpty_iff] at hFl
            rw [hFl] at hjl; simp at hjl
          | br i pi ti k pk tk =>
            have hFl' := hFl
            simp only [chkTr, Bool.and_eq_true, beq_iff_eq] at hFl'
            obtain ⟨⟨⟨e1, e2⟩, -⟩, -⟩ := hFl'
            rw [e1] at hjl
            simp only [TS, Bool.and_eq_true, List.all_eq_true] at hts
            simp only [Tr.size] at hl
            have hnl : ∀ x : List Nat, (non x).map Prod.fst = x := fun x => by simp [non, Function.comp_def]
            simp only [List.mem_cons, List.not_mem_nil, or_false] at hjl
            rcases hjl with rfl | rfl
            · obtain ⟨p1, p2⟩ := chkF_pull2 (G := fun l => chkF soft ops (chkTr soft ops ti) pi l) hts.1.1 (fun l hl => by simp only [chkTr, Bool.and_eq_true] at hl; exact hl.1.2) (fun _ h => h) hck hj hm
              rw [← chkF_append] at p2
              refine ⟨c, none, non pi, ti, p1, ?_, ?_, ?_, ?_⟩
              · rw [hnl]; exact p2
              · rw [SE_append]; exact SE_mono (fun env σ hh => hh.1) h
              · simp only [non, List.length_map]; omega
              · rw [hnl]; exact hts.1.2
            · obtain ⟨p1, p2⟩ := chkF_pull2 (G := fun l => chkF soft ops (chkTr soft ops tk) pk l) hts.2.1 (fun l hl => by simp only [chkTr, Bool.and_eq_true] at hl; exact hl.2) (fun _ h => h) hck hj hm
              rw [← chkF_append] at p2
              refine ⟨c, none, non pk, tk, p1, ?_, ?_, ?_, ?_⟩
              · rw [hnl]; exact p2
              · rw [SE_append]; exact SE_mono (fun env σ hh => hh.2) h
              · simp only [non, List.length_map]; omega
              · rw [hnl]; exact hts.2.2
      obtain ⟨qj', ps', hps, hsv⟩ := SE_pull hgt p1 hse
      obtain ⟨_, oj, hoj, _⟩ := mem_ready.1 hj
      have hoko : okOp nt oj = true := by
        rw [List.all_eq_true] at hok
        exact hok oj (by simpa using Array.mem_of_getElem? hoj)
      have hlen : (ps' ++ c3).length + T'.size = n := by
        have : ps'.length = cs1.length := by have := congrArg List.length hps; simpa using this
        simp only [List.length_append] at hlen0 ⊢
        omega
      have hck' : chkF soft ops (chkTr soft ops T') ((ps' ++ c3).map Prod.fst) (listed.setIfInBounds j true) = true := by
        rw [List.map_append, hps]; exact hck0
      have hts' : TS ops T' ((ps' ++ c3).map Prod.fst) = true := by
        rw [List.map_append, hps]; exact hts0
      unfold wpOpIn
      simp only [hoj]
      simp only [List.cons_append, SE, hoj] at hsv
      cases hso : softC soft oj with
      | true =>
        simp only [hso, cond_true] at hsv
        obtain ⟨d, e1, e3⟩ := hsv
        refine soft_sound (r := r) (ops := ops) hgt hc he hoko e1 ?_
        intro M' w' a' s1 c1 e4 d1
        exact any_tree2 hgt keep hok n T' (ps' ++ c3) _ hlen hck' hts' _ σ M' w' a' e3 c1 e4 hd (d1.trans hda) (hs.trans s1)
      | false =>
      simp only [hso, cond_false] at hsv
      cases hq : quiet oj.op with
      | true =>
        simp only [hq, cond_true] at hsv
        obtain ⟨e1, e2, e3⟩ := hsv
        obtain ⟨v, r1, r2⟩ := quiet_sound (r := r) (ops := ops) hgt hc he hoko e1 e2
        refine r2 _ _ (any_tree2 hgt keep hok n T' (ps' ++ c3) _ hlen hck' hts' _ σ M w _ e3 hc (he.put (okOp_dst hoko) r1) hd ?_ hs)
        rw [← hda]; cases oj.dst <;> rfl
      | false =>
        simp only [hq, cond_false] at hsv
        refine vop_sound (imm := imm) (ops := ops) (r := r) hgt hc he hoko (κ := fun env' σ' => SE P imm soft gt ops (SET P imm soft gt ops (fun env σ => Q .normal (prune keep env) σ) (fun d σ => Q (.pan d) (fun _ => .top) σ) T') (fun d σ => Q (.pan d) (fun _ => .top) σ) (ps' ++ c3) env' σ') (X := fun d σ => Q (.pan d) (fun _ => .top) σ) ?_ ?_ ?_
        · unfold vop
          simp only [hq, cond_false]
          exact nv_mono (fun d σ' hh => hh.2) hsv
        · intro M' w' σ' env' a' s1 c1 e1 d1 k1
          exact any_tree2 hgt keep hok n T' (ps' ++ c3) _ hlen hck' hts' env' σ' M' w' a' k1 c1 e1 hd (d1.trans hda) (hs.trans s1)
        · intro M' w' σ' d v s1 c1 r1 x1
          exact ⟨M', fun _ => .top, σ', .pan d, hs.trans s1, c1, ⟨he.1, fun _ => by simp only [R]⟩, hda ▸ hd.step (hs.trans s1), ⟨v, rfl, r1⟩, x1⟩

def drT2 (nt : Nat) (soft : List Nat) (ops : Array Oper) (gt : List (Nat × Nat)) (perm : List Nat) (T : Tr) : Bool := rgOK nt ops gt && TS ops T perm && perm.length + T.size == ops.size && chkF soft ops (chkTr soft ops T) perm (Array.replicate ops.size false)

/-- A REGION WHERE TWO ORDERS MATTER. -/
theorem rgt2 (keep imm soft : List Nat) (gt : List (Nat × Nat)) (perm : List Nat) (T : Tr) {id : Nat} {l pl : List Oper} {env : Env} {σ : Store} {Q : AE → Env → Store → Prop} (hm : P.follows .mixedOrders = true) (hok : drT2 nt soft l.toArray gt perm T = true)
    (hpl : Pk l perm pl)
    (h : ∀ (κ : Env → Store → Prop) (ξ : D → Store → Prop), (∀ env σ, Q .normal env σ → κ env σ) → (∀ d σ, Q (.pan d) (fun _ => .top) σ → ξ d σ) →
      vdr P imm soft gt (SET P imm soft gt l.toArray (fun env σ => κ (prune keep env) σ) ξ T) ξ pl env σ) : AWp P r nt (.region id l.toArray true) env σ Q := by
  intro M w a B hc he hd
  unfold drT2 rgOK at hok
  simp only [Bool.and_eq_true, beq_iff_eq] at hok
  obtain ⟨⟨⟨⟨h1, h4⟩, h5⟩, h2⟩, h3⟩ := hok
  refine wpIn_region_any hm ?_
  have := any_tree2 (P := P) (r := r) (imm := imm) (soft := soft) (ops := l.toArray) (Q := Q) (GT.of h4) keep h1 l.toArray.size T (perm.map fun i => (i, none)) (Array.replicate l.toArray.size false) (by simpa using h2) (by simpa [Function.comp_def] using h3) (by simpa [Function.comp_def] using h5)
    env σ M w.drew a (SE_of_vdr hpl.map (h (fun env σ => Q .normal env σ) (fun d σ => Q (.pan d) (fun _ => .top) σ) (fun _ _ h => h) (fun _ _ h => h))) hc.drew he (a0 := a) hd rfl (M0 := M) (w0 := w) (σ0 := σ) (Step.drew M w σ)
  exact this
end

end Go.Proofs.YtjjkgeeafjagkaaGreat

/- Joined. -/
import Derived.Test.YtinhjbnljbmbcaaGreatQ03
import Derived.Test.YtinhjbnljbmbcaaGreatQ11
import Derived.Test.YtinhjbnljbmbcaaGreatQ06
import Derived.Test.YtinhjbnljbmbcaaGreatQ07
import Derived.Test.YtinhjbnljbmbcaaGreatQ10
import Derived.Test.YtinhjbnljbmbcaaGreatQ08
namespace Go.Proofs.YtinhjbnljbmbcaaGreat
open Go Go.RowKit
set_option linter.unusedSimpArgs false
set_option linter.unusedVariables false
set_option maxHeartbeats 4000000
set_option maxRecDepth 100000
section
section
variable {P : Program} {M : Mem} {w : World} {σ : Store} {r : Option Nat} {nt : Nat} {ops : Array Oper} {imm : List Nat} {soft : List Nat} {gt : List (Nat × Nat)}
def cfl (soft : List Nat) (ops : Array Oper) (i j : Nat) : Bool := match ops[i]?, ops[j]? with
 | some oi, some oj => !isW soft oj || !rdSt oi.op || oj.after.any (fun e => Region.binds .any e && e.on == i)
 | _, _ => true
theorem cfl_at {i j : Nat} {oi oj : Oper} (h : cfl soft ops i j = true) (hi : ops[i]? = some oi) (hj : ops[j]? = some oj) (hno : ∀ e ∈ oj.after, Region.binds .any e = true → e.on ≠ i) : isW soft oj = false ∨ rdSt oi.op = false := by
 unfold cfl at h
 simp only [hi, hj, Bool.or_eq_true, Bool.not_eq_true'] at h
 rcases h with (h | h) | h
 ·exact .inl h
 ·exact .inr h
 ·rw [Array.any_eq_true] at h
  obtain ⟨k, hk, he⟩ := h
  rw [Bool.and_eq_true, beq_iff_eq] at he
  exact absurd he.2 (hno _ (Array.getElem_mem hk) he.1)
def pw (r : Nat → Nat → Bool) : List Nat → Bool
 | [] => true
 | a :: l => l.all (r a) && pw r l
theorem pw_mono {r : Nat → Nat → Bool} : ∀ {l m : List Nat}, l.Sublist m → pw r m = true → pw r l = true
 | _, _, .slnil, _ => rfl
 | _, _, .cons a h, hm => by
  simp only [pw, Bool.and_eq_true] at hm
  exact pw_mono h hm.2
 | _, _, .cons_cons a h, hm => by
  simp only [pw, Bool.and_eq_true, List.all_eq_true] at hm ⊢
  exact ⟨fun x hx => hm.1 x (h.subset hx), pw_mono h hm.2⟩
theorem pw_pair {r : Nat → Nat → Bool} {j : Nat} {rest : List Nat} : ∀ {ps : List Nat} {p : Nat}, pw r (ps ++ j :: rest) = true → p ∈ ps → r p j = true
 | [], _, _, h => by cases h
 | a :: ps, p, h, hp => by
  simp only [List.cons_append, pw, Bool.and_eq_true, List.all_eq_true] at h
  rcases List.mem_cons.1 hp with rfl | hp
  ·exact h.1 j (by simp)
  ·exact pw_pair h.2 hp
def TS (soft : List Nat) (ops : Array Oper) : Tr → List Nat → Bool
 | .fin, c => pw (cfl soft ops) c
 | .br i pi ti k pk tk, c => (c.all (fun p => cfl soft ops p i) && TS soft ops ti (c ++ pi)) && (c.all (fun p => cfl soft ops p k) && TS soft ops tk (c ++ pk))
theorem TS_pw : ∀ {T : Tr} {c : List Nat}, TS soft ops T c = true → pw (cfl soft ops) c = true
 | .fin, _, h => h
 | .br i pi ti k pk tk, c, h => by
  simp only [TS, Bool.and_eq_true] at h
  exact pw_mono (List.sublist_append_left _ _) (TS_pw h.1.2)
theorem TS_mono : ∀ {T : Tr} {c d : List Nat}, c.Sublist d → TS soft ops T d = true → TS soft ops T c = true
 | .fin, _, _, hs, h => pw_mono hs h
 | .br i pi ti k pk tk, c, d, hs, h => by
  simp only [TS, Bool.and_eq_true, List.all_eq_true] at h ⊢
  exact ⟨⟨fun x hx => h.1.1 x (hs.subset hx), TS_mono (List.Sublist.append_right hs _) h.1.2⟩, fun x hx => h.2.1 x (hs.subset hx), TS_mono (List.Sublist.append_right hs _) h.2.2⟩
theorem chkF_pull2 {F G : Array Bool → Bool} {j : Nat} {ps0 : List Nat} (hcf : ∀ p ∈ ps0, cfl soft ops p j = true) (hFG : ∀ l, F l = true → G (l.setIfInBounds j true) = true) : ∀ {ps : List Nat} {listed : Array Bool}, (∀ p ∈ ps, p ∈ ps0) → chkF soft ops F ps listed = true → j ∈ Region.ready .any ops listed → j ∉ ps →
  (∀ p ∈ ps, ∃ op oj, ops[p]? = some op ∧ ops[j]? = some oj ∧ (quiet op.op || softC soft op) = true ∧ op.apart ops oj = true ∧ (isW soft oj = false ∨ rdSt op.op = false)) ∧ chkF soft ops G ps (listed.setIfInBounds j true) = true
 | [], listed, _, h, _, _ => ⟨by simp, hFG _ h⟩
 | p :: ps, listed, hsub, h, hj, hn => by
  simp only [List.mem_cons, not_or] at hn
  simp only [chkF, Bool.and_eq_true] at h
  obtain ⟨⟨h1, h2⟩, h3⟩ := h
  obtain ⟨hju, oj, hoj, hall⟩ := mem_ready.1 hj
  split at h2
  ·rename_i op hop
   have hpr : p ∈ Region.ready .any ops listed := by simpa using h1
   have hpu := (mem_ready.1 hpr).1
   have hqf : (quiet op.op || softC soft op) = true ∧ Region.free .any ops listed p = true := by
    rcases Bool.or_eq_true _ _ ▸ h2 with h2 | h2
    ·rwa [Bool.and_eq_true] at h2
    ·rw [beq_iff_eq] at h2
     rw [h2] at hj
     simp at hj
     exact absurd hj hn.1
   have hno : ∀ e ∈ oj.after, Region.binds .any e = true → e.on ≠ p := fun e he hb heq => by
    have := hall e he hb
    rw [heq] at this
    rcases Nat.lt_or_ge p listed.size with h' | h'
    ·simp [h'] at this hpu; rw [hpu] at this; cases this
    ·simp [Array.getElem?_eq_none h'] at this
   have hap : op.apart ops oj = true := Region.free_spec hop hqf.2 j oj hoj hn.1 hju hno
   have hso := cfl_at (hcf p (hsub p (by simp))) hop hoj hno
   obtain ⟨i1, i2⟩ := chkF_pull2 hcf hFG (fun x hx => hsub x (List.mem_cons_of_mem _ hx)) h3 (ready_mono hj hn.1) hn.2
   refine ⟨fun x hx => ?_, ?_⟩
   ·rcases List.mem_cons.1 hx with rfl | hx
    ·exact ⟨op, oj, hop, hoj, hqf.1, hap, hso⟩
    ·exact i1 x hx
   ·simp only [chkF, Bool.and_eq_true]
    refine ⟨⟨by simpa using ready_mono hpr (fun e => hn.1 e.symm), ?_⟩, ?_⟩
    ·simp only [hop, hqf.1, free_mono hqf.2, Bool.true_and, Bool.true_or]
    ·rw [Array.setIfInBounds_comm _ _ hn.1]; exact i2
  ·cases h2
theorem any_tree2 (hgt : GT ops gt) {Q : AE → Env → Store → Prop} (keep : List Nat) {M0 : Mem} {w0 : World} {σ0 : Store} {a0 : Act} {B : Nat × List Deferred} (hok : ops.toList.all (okOp nt) = true) : ∀ (n : Nat) (T : Tr) (c : List (Nat × Option Store)) (listed : Array Bool), c.length + T.size = n → chkF soft ops (chkTr soft ops T) (c.map Prod.fst) listed = true → TS soft ops T (c.map Prod.fst) = true →
  ∀ (env : Env) (σ : Store) (M : Mem) (w : World) (a : Act),
  SE P imm soft gt ops (SET P imm soft gt ops (fun env σ => Q .normal (prune keep env) σ) (fun d σ => Q (.pan d) (fun _ => .top) σ) T) (fun d σ => Q (.pan d) (fun _ => .top) σ) c env σ →
  Conc M w σ → EnvR M nt env a → DefOK B σ0 w0 a0.defers → a.defers = a0.defers → Step M0 w0 σ0 M w σ → wpAnyIn (WF r) 0 P .any ops (rgPost M0 w0 σ0 nt B Q) n listed a w
 | 0, T, c, listed, hl, hck, hts, env, σ, M, w, a, h, hc, he, hd, hda, hs => by
  have hnil : c = [] := List.eq_nil_of_length_eq_zero (by omega)
  subst hnil
  cases T with
  | br => simp only [Tr.size] at hl; omega
  | fin =>
   simp only [List.map_nil, chkF, chkTr, List.isEmpty_iff] at hck
   exact ⟨hck, M, _, σ, .normal, hs, hc, he.prune keep, hda ▸ hd.step hs, trivial, h⟩
 | n + 1, T, c, listed, hl, hck, hts, env, σ, M, w, a, h, hc, he, hd, hda, hs => by
  refine ⟨fun h0 => ?_, fun j hj => ?_⟩
  ·cases c with
   | nil =>
    cases T with
    | fin => simp [Tr.size] at hl
    | br i pi ti k pk tk =>
     simp only [List.map_nil, chkF, chkTr, h0, Bool.and_eq_true] at hck
     simp at hck
   | cons i c =>
    simp only [List.map_cons, chkF, Bool.and_eq_true, h0] at hck
    simp at hck
  ·obtain ⟨cs1, qj, c3, T', p1, hck0, hse, hlen0, hts0⟩ : ∃ (cs1 : List (Nat × Option Store)) (qj : Option Store) (c3 : List (Nat × Option Store)) (T' : Tr),
     (∀ p ∈ cs1.map Prod.fst, ∃ op oj, ops[p]? = some op ∧ ops[j]? = some oj ∧ (quiet op.op || softC soft op) = true ∧ op.apart ops oj = true ∧ (isW soft oj = false ∨ rdSt op.op = false)) ∧
     chkF soft ops (chkTr soft ops T') (cs1.map Prod.fst ++ c3.map Prod.fst) (listed.setIfInBounds j true) = true ∧
     SE P imm soft gt ops (SET P imm soft gt ops (fun env σ => Q .normal (prune keep env) σ) (fun d σ => Q (.pan d) (fun _ => .top) σ) T') (fun d σ => Q (.pan d) (fun _ => .top) σ) (cs1 ++ (j, qj) :: c3) env σ ∧
     cs1.length + c3.length + T'.size = n ∧ TS soft ops T' (cs1.map Prod.fst ++ c3.map Prod.fst) = true := by
    by_cases hm : j ∈ c.map Prod.fst
    ·obtain ⟨ps, rest, hsplit, hnot⟩ := List.eq_append_cons_of_mem hm
     obtain ⟨cs1, c2, rfl, hc1, hc2⟩ := List.map_eq_append_iff.1 hsplit
     cases c2 with
     | nil => simp at hc2
     | cons jq c3 =>
      obtain ⟨j', qj⟩ := jq
      simp only [List.map_cons, List.cons.injEq] at hc2
      obtain ⟨rfl, hc3⟩ := hc2
      rw [hsplit] at hts
      rw [hsplit, chkF_append] at hck
      obtain ⟨p1, p2⟩ := chkF_pull2 (G := fun l => chkF soft ops (chkTr soft ops T) rest l) (fun p hp => pw_pair (TS_pw hts) hp) (fun l hl => by simp only [chkF, Bool.and_eq_true] at hl; exact hl.2) (fun _ h => h) hck hj hnot
      rw [← chkF_append] at p2
      refine ⟨cs1, qj, c3, T, hc1 ▸ p1, ?_, h, ?_, ?_⟩
      ·rw [hc1, hc3]; exact p2
      ·simp only [List.length_append, List.length_cons] at hl; omega
      ·rw [hc1, hc3]; exact TS_mono (List.Sublist.append_left (List.sublist_cons_self _ _) _) hts
    ·obtain ⟨l, hFl, hjl⟩ := ready_in_chkF hck hj hm
     cases T with
     | fin =>
      simp only [chkTr, List.isEmpty_iff] at hFl
      rw [hFl] at hjl; simp at hjl
     | br i pi ti k pk tk =>
      have hFl' := hFl
      simp only [chkTr, Bool.and_eq_true, beq_iff_eq] at hFl'
      obtain ⟨⟨⟨e1, e2⟩, -⟩, -⟩ := hFl'
      rw [e1] at hjl
      simp only [TS, Bool.and_eq_true, List.all_eq_true] at hts
      simp only [Tr.size] at hl
      have hnl : ∀ x : List Nat, (non x).map Prod.fst = x := fun x => by simp [non, Function.comp_def]
      simp only [List.mem_cons, List.not_mem_nil, or_false] at hjl
      rcases hjl with rfl | rfl
      ·obtain ⟨p1, p2⟩ := chkF_pull2 (G := fun l => chkF soft ops (chkTr soft ops ti) pi l) hts.1.1 (fun l hl => by simp only [chkTr, Bool.and_eq_true] at hl; exact hl.1.2) (fun _ h => h) hck hj hm
       rw [← chkF_append] at p2
       refine ⟨c, none, non pi, ti, p1, ?_, ?_, ?_, ?_⟩
       ·rw [hnl]; exact p2
       ·rw [SE_append]; exact SE_mono (fun env σ hh => hh.1) h
       ·simp only [non, List.length_map]; omega
       ·rw [hnl]; exact hts.1.2
      ·obtain ⟨p1, p2⟩ := chkF_pull2 (G := fun l => chkF soft ops (chkTr soft ops tk) pk l) hts.2.1 (fun l hl => by simp only [chkTr, Bool.and_eq_true] at hl; exact hl.2) (fun _ h => h) hck hj hm
       rw [← chkF_append] at p2
       refine ⟨c, none, non pk, tk, p1, ?_, ?_, ?_, ?_⟩
       ·rw [hnl]; exact p2
       ·rw [SE_append]; exact SE_mono (fun env σ hh => hh.2) h
       ·simp only [non, List.length_map]; omega
       ·rw [hnl]; exact hts.2.2
   obtain ⟨qj', ps', hps, hsv⟩ := SE_pull hgt p1 hse
   obtain ⟨_, oj, hoj, _⟩ := mem_ready.1 hj
   have hoko : okOp nt oj = true := by
    rw [List.all_eq_true] at hok
    exact hok oj (by simpa using Array.mem_of_getElem? hoj)
   have hlen : (ps' ++ c3).length + T'.size = n := by
    have : ps'.length = cs1.length := by have := congrArg List.length hps; simpa using this
    simp only [List.length_append] at hlen0 ⊢
    omega
   have hck' : chkF soft ops (chkTr soft ops T') ((ps' ++ c3).map Prod.fst) (listed.setIfInBounds j true) = true := by
    rw [List.map_append, hps]; exact hck0
   have hts' : TS soft ops T' ((ps' ++ c3).map Prod.fst) = true := by
    rw [List.map_append, hps]; exact hts0
   unfold wpOpIn
   simp only [hoj]
   simp only [List.cons_append, SE, hoj] at hsv
   cases hso : softC soft oj with
   | true =>
    simp only [hso, cond_true] at hsv
    obtain ⟨d, e1, e3⟩ := hsv
    refine soft_sound (r := r) (ops := ops) hgt hc he hoko e1 ?_
    intro M' w' a' s1 c1 e4 d1
    exact any_tree2 hgt keep hok n T' (ps' ++ c3) _ hlen hck' hts' _ σ M' w' a' e3 c1 e4 hd (d1.trans hda) (hs.trans s1)
   | false =>
   simp only [hso, cond_false] at hsv
   cases hq : quiet oj.op with
   | true =>
    simp only [hq, cond_true] at hsv
    obtain ⟨e1, e2, e3⟩ := hsv
    obtain ⟨v, r1, r2⟩ := quiet_sound (r := r) (ops := ops) hgt hc he hoko e1 e2
    refine r2 _ _ (any_tree2 hgt keep hok n T' (ps' ++ c3) _ hlen hck' hts' _ σ M w _ e3 hc (he.put (okOp_dst hoko) r1) hd ?_ hs)
    rw [← hda]; cases oj.dst <;> rfl
   | false =>
    simp only [hq, cond_false] at hsv
    refine vop_sound (imm := imm) (ops := ops) (r := r) hgt hc he hoko (κ := fun env' σ' => SE P imm soft gt ops (SET P imm soft gt ops (fun env σ => Q .normal (prune keep env) σ) (fun d σ => Q (.pan d) (fun _ => .top) σ) T') (fun d σ => Q (.pan d) (fun _ => .top) σ) (ps' ++ c3) env' σ') (X := fun d σ => Q (.pan d) (fun _ => .top) σ) ?_ ?_ ?_
    ·unfold vop
     simp only [hq, cond_false]
     exact nv_mono (fun d σ' hh => hh.2) hsv
    ·intro M' w' σ' env' a' s1 c1 e1 d1 k1
     exact any_tree2 hgt keep hok n T' (ps' ++ c3) _ hlen hck' hts' env' σ' M' w' a' k1 c1 e1 hd (d1.trans hda) (hs.trans s1)
    ·intro M' w' σ' d v s1 c1 r1 x1
     exact ⟨M', fun _ => .top, σ', .pan d, hs.trans s1, c1, ⟨he.1, fun _ => by simp only [R]⟩, hda ▸ hd.step (hs.trans s1), ⟨v, rfl, r1⟩, x1⟩
def drT2 (nt : Nat) (soft : List Nat) (ops : Array Oper) (gt : List (Nat × Nat)) (perm : List Nat) (T : Tr) : Bool := rgOK nt ops gt && TS soft ops T perm && perm.length + T.size == ops.size && chkF soft ops (chkTr soft ops T) perm (Array.replicate ops.size false)
theorem rgt2 (keep imm soft : List Nat) (gt : List (Nat × Nat)) (perm : List Nat) (T : Tr) {id : Nat} {l pl : List Oper} {env : Env} {σ : Store} {Q : AE → Env → Store → Prop} (hm : P.follows .mixedOrders = true) (hok : drT2 nt soft l.toArray gt perm T = true)
  (hpl : Pk l perm pl)
  (h : ∀ (κ : Env → Store → Prop) (ξ : D → Store → Prop), (∀ env σ, Q .normal env σ → κ env σ) → (∀ d σ, Q (.pan d) (fun _ => .top) σ → ξ d σ) →
    vdr P imm soft gt (SET P imm soft gt l.toArray (fun env σ => κ (prune keep env) σ) ξ T) ξ pl env σ) : AWp P r nt (.region id l.toArray true) env σ Q := by
 intro M w a B hc he hd
 unfold drT2 rgOK at hok
 simp only [Bool.and_eq_true, beq_iff_eq] at hok
 obtain ⟨⟨⟨⟨h1, h4⟩, h5⟩, h2⟩, h3⟩ := hok
 refine wpIn_region_any hm ?_
 have := any_tree2 (P := P) (r := r) (imm := imm) (soft := soft) (ops := l.toArray) (Q := Q) (GT.of h4) keep h1 l.toArray.size T (perm.map fun i => (i, none)) (Array.replicate l.toArray.size false) (by simpa using h2) (by simpa [Function.comp_def] using h3) (by simpa [Function.comp_def] using h5)
  env σ M w.drew a (SE_of_vdr hpl.map (h (fun env σ => Q .normal env σ) (fun d σ => Q (.pan d) (fun _ => .top) σ) (fun _ _ h => h) (fun _ _ h => h))) hc.drew he (a0 := a) hd rfl (M0 := M) (w0 := w) (σ0 := σ) (Step.drew M w σ)
 exact this
end
end
section
attribute [local go_sem] List.length_map rowAt_n nrow rowAt_t trow rowAt_i irow
attribute [local go_sem] rowAt_e rowAt_tm rowAt_dc rowAt_ru tmrow dcrow rurow
attribute [local go_sem] rowAt_br rowAt_s rowAt_fo rowAt_ve rowAt_g rowAt_k grow krow srow brrow forow dorow verow
attribute [local go_sem] iD_all iD_len rw2_0 rw2_1 rw1_0 Int.toNat_one
attribute [local go_sem] pl_d33 pl_d34 pl_d35 pl_d36 pl_d37 pl_d38 pl_d39 pl_t33 pl_t34 pl_t35 pl_t36 pl_t37 pl_t38 pl_t39 pl_dlt pl_ge pl_len pl_all iD_len iD_all plR plT List.append_assoc firstS_len Nat.zero_add Int.reduceToNat
theorem fnd_w (d : Do) (x w s lg : Int) : PCall Tryz.prog (.func 30) [.ag (dorow d), .int .i64 x, .ag [.int .i64 w, .int .i64 s, .int .i64 lg]] (.tup [.ag (plR (fndR d x w s lg).1), .int .i64 (fndR d x w s lg).2]) := by
 refine PCall.le ?_
 refine fn_ Tryz.func30 (by rfl) (by rfl) (rs := [.cell 6 67, .tmp 7]) (by rfl) (by simp [Tryz.f30]) ?_
 refine sr_ [1, 3, 5, 6] [3, 5] [] fun κ ξ hκ hξ => ?_
 simp +decide only [go_sem]
 intro b6 hb6
 refine hκ _ _ ?_
 refine weak _ (EnvLe.refl _) (σ' := [(b6, .cells (plR pl0))]) (.refl _) ?_
 refine sr_ [1, 3, 5, 6, 8, 9] [] [] fun κ ξ hκ hξ => ?_
 simp +decide only [go_sem, hb6]
 refine callF (opn_w _ _ _ _ _) ?_
 simp +decide only [go_sem, hb6]
 refine hκ _ _ ?_
 refine sq ?_
 refine sr_ [1, 3, 5, 6, 8, 9, 20] [] [] fun κ ξ hκ hξ => ?_
 simp +decide only [go_sem, hb6]
 refine hκ _ _ ?_
 refine cd_ (fun c0 => ?_) (fun c0 => ?_)
 ·simp only [go_sem] at c0
  refine sr_ [6, 7] [] [] fun κ ξ hκ hξ => ?_
  simp +decide only [go_sem, hb6, c0]
  refine hκ _ _ ?_
  refine rt ?_
  refine retE ?_
  simp +decide only [go_sem, resD, resV, hb6, c0]
  rw [show fndR d x w s lg = (pl0, opE d x w s lg) by unfold fndR; exact if_pos c0]
  rfl
 ·simp only [go_sem] at c0
  obtain ⟨hdb, hrd, hid, htb, hix⟩ := opE_zero c0
  have hT := treB_true.1 htb
  have hlt := idx_in hix
  have hps : ∀ i, i < (pthX d.nodes x).length → idB (iat (pthX d.nodes x) i) = true ∧ 0 ≤ idx d.nodes (iat (pthX d.nodes x) i) := fun i hi => path_ok hT hlt.1 (mem_iat hi)
  have hpm := path_len hT hlt.1
  have hww := rdB_w hrd
  refine sk ?_
  refine sr_ [1, 3, 5, 6, 8, 10] [] [] fun κ ξ hκ hξ => ?_
  simp +decide only [go_sem, hb6, c0]
  intro b10 hb10
  refine hκ _ _ ?_
  refine weak _ (EnvLe.refl _) (σ' := [(b10, .cells (plR (lastP ((plsX d x w s lg).take 0)))), (b6, .cells (plR pl0))]) (.refl _) ?_
  refine sq ?_
  refine sr_ [1, 6, 10, 26] [] [] fun κ ξ hκ hξ => ?_
  simp +decide only [go_sem, hb6, hb10]
  refine callF (dwn_w _ _ _ _ _) ?_
  simp +decide only [go_sem, hb6, hb10]
  refine hκ _ _ ?_
  refine bl ?_
  have hlL : ∀ q ∈ plsX d x w s lg, q.st.length = 33 := plSeq_len _ _ firstS_len
  have hl0 : ∀ n, (lastP ((plsX d x w s lg).take n)).st.length = 33 := fun n => lastP_len fun q hq => hlL q (List.mem_of_mem_take hq)
  refine rf (ps := [27]) (fun n τ => τ = [(b10, .cells (plR (lastP ((plsX d x w s lg).take n)))), (b6, .cells (plR pl0))]) (fun _ _ => False) (by rfl) Tryz.func96 (by rfl) (by rfl) (dn1_w d (pthX d.nodes x) w s lg htb hps (by omega) (by unfold pthX; omega)) (by intro p hp; simp at hp; subst hp; decide) (fun z hz => by simp only [List.mem_map] at hz; obtain ⟨p, _, rfl⟩ := hz; rfl) rfl ?_ ?_ (fun _ _ h => h.elim)
  ·intro L n z hx τ hτ
   subst hτ
   have hn10 := hl0 n
   obtain ⟨p, hp, rfl⟩ : ∃ p, (plsX d x w s lg)[n]? = some p ∧ z = [.ag (plR p)] := by
    rw [List.getElem?_map] at hx
    cases e : (plSeq d w s lg (plF w) (pthX d.nodes x))[n]? with
    | none => rw [e] at hx; cases hx
    | some p => rw [e] at hx; cases hx; exact ⟨p, e, rfl⟩
   have hpl := hlL p (List.mem_of_getElem? hp)
   refine rrz_ [(11, [])] [1, 6, 10, 11] [] [] fun κ ξ hκ hξ => ?_
   simp +decide only [go_sem, hb6, hb10, hpl]
   intro b11 hb11
   refine hκ _ _ ⟨rfl, ?_⟩
   refine bl ?_
   refine rr_ [1, 6, 10] [] [] fun κ ξ hκ hξ => ?_
   simp +decide only [go_sem, hb6, hb10, hpl, hn10, hb11]
   refine hκ _ _ ?_
   show _ = _
   rw [lastP_take hp]
   rfl
  ·rintro τ rfl
   have e : List.take (List.map (fun p => [D.ag (plR p)]) (plSeq d w s lg (plF w) (pthX d.nodes x))).length (plsX d x w s lg) = plsX d x w s lg := List.take_of_length_le (by rw [List.length_map]; exact Nat.le_refl _)
   rw [e]
   have hll := lastP_len hlL
   refine sq ?_
   refine sr_ [6, 10, 32] [] [] fun κ ξ hκ hξ => ?_
   simp +decide only [go_sem, hb6, hb10, hll]
   refine hκ _ _ ?_
   refine cd_ (fun c1 => ?_) (fun c1 => ?_)
   ·try simp only [go_sem] at c1
    refine sr_ [6, 7] [] [] fun κ ξ hκ hξ => ?_
    simp +decide only [go_sem, hb6, hb10, c1]
    refine hκ _ _ ?_
    refine rt ?_
    refine retE ?_
    simp +decide only [go_sem, resD, resV, hb6, c0, hb10, hll, c1]
    rw [show fndR d x w s lg = (pl0, 3) by unfold fndR; rw [if_neg (fun h => h c0), if_pos c1]]
    rfl
   ·try simp only [go_sem] at c1
    refine sk ?_
    refine sr_ [6, 7] [] [] fun κ ξ hκ hξ => ?_
    simp +decide only [go_sem, hb6, hb10, hll, c1]
    refine hκ _ _ ?_
    refine rt ?_
    refine retE ?_
    simp +decide only [go_sem, resD, resV, hb6, c0, hb10, hll, c1]
    rw [show fndR d x w s lg = (lastP (plsX d x w s lg), 0) by unfold fndR; rw [if_neg (fun h => h c0), if_neg (fun h => h c1)]]
    simp only [c1]
theorem cst_w (d : Do) (x w s lg : Int) : PCall Tryz.prog (.func 11) [.ag (dorow d), .int .i64 x, .ag [.int .i64 w, .int .i64 s, .int .i64 lg]] (.tup [.ag ((styC d x w s lg).1.map iD), .int .i64 (styC d x w s lg).2]) := by
 have hfl := fnd_len d x w s lg
 have hft : List.take 33 (fndR d x w s lg).1.st = (fndR d x w s lg).1.st := List.take_of_length_le (by omega)
 refine PCall.le ?_
 refine fn_ Tryz.func11 (by rfl) (by rfl) (rs := [.cell 6 33, .tmp 7]) (by rfl) (by simp [Tryz.f11]) ?_
 refine sr_ [1, 3, 5, 6] [3, 5] [] fun κ ξ hκ hξ => ?_
 simp +decide only [go_sem]
 intro b6 hb6
 refine hκ _ _ ?_
 refine weak _ (EnvLe.refl _) (σ' := [(b6, .cells (zS.map iD))]) (.refl _) ?_
 refine srz_ [(8, [])] [6, 8, 9] [] [] fun κ ξ hκ hξ => ?_
 simp +decide only [go_sem, hb6]
 refine callF (fnd_w _ _ _ _ _) ?_
 simp +decide only [go_sem, hfl, hb6]
 intro b8 hb8
 refine hκ _ _ ?_
 refine sq ?_
 refine bl ?_
 refine sr_ [6, 8, 9, 17] [] [] fun κ ξ hκ hξ => ?_
 simp +decide only [go_sem, hb6, hb8]
 refine hκ _ _ ?_
 refine cd_ (fun c0 => ?_) (fun c0 => ?_)
 ·try simp only [go_sem] at c0
  refine sr_ [6, 7] [] [] fun κ ξ hκ hξ => ?_
  simp +decide only [go_sem, zS_end, hb6, hb8, c0]
  refine hκ _ _ ?_
  refine rt ?_
  refine retE ?_
  simp +decide only [go_sem, resD, resV, hfl, hft, zS_end, hb6, hb8, c0]
  rw [show styC d x w s lg = (zS, (fndR d x w s lg).2) by unfold styC; exact if_pos c0]
  try rfl
 ·try simp only [go_sem] at c0
  refine sr_ [6, 8, 22] [] [] fun κ ξ hκ hξ => ?_
  simp +decide only [go_sem, hfl, hb6, hb8, c0]
  refine hκ _ _ ?_
  refine cd_ (fun c1 => ?_) (fun c1 => ?_)
  ·try simp only [go_sem] at c1
   refine sq ?_
   refine rgt2 [6, 7] [] [] [] [0, 1] (.br 2 [3, 4] .fin 3 [2, 4] .fin) (by kernel_rfl) (by kernel_rfl) (Pk.cons rfl (Pk.cons rfl (Pk.nil))) ?_; intro κ ξ hκ hξ
   simp +decide only [go_sem, hfl, hb6, hb8, c1]
   repeat with_reducible refine And.intro (by first | assumption | omega | (simp; done) | (simp; omega) | (intro hg; simp +decide only [go_sem, hg]; done) | (intro hg; simp +decide only [go_sem, hg]; omega)) ?_
   refine SET_br (Pk.cons rfl (Pk.cons rfl (Pk.cons rfl (Pk.nil)))) (Pk.cons rfl (Pk.cons rfl (Pk.cons rfl (Pk.nil)))) ?_ ?_
   ·simp +decide only [go_sem, zS_end, hb6, hb8]
    repeat with_reducible refine And.intro (by first | assumption | omega | (simp; done) | (simp; omega) | (intro hg; simp +decide only [go_sem, hg]; done) | (intro hg; simp +decide only [go_sem, hg]; omega)) ?_
    refine SET_fin ?_
    simp +decide only [go_sem, hb6, hb8]
    repeat with_reducible refine And.intro (by first | assumption | omega | (simp; done) | (simp; omega) | (intro hg; simp +decide only [go_sem, hg]; done) | (intro hg; simp +decide only [go_sem, hg]; omega)) ?_
    refine hκ _ _ ?_
    refine rt ?_
    refine retE ?_
    simp +decide only [go_sem, resD, resV, hfl, hft, zS_end, hb6, hb8, c0, c1]
    rw [show styC d x w s lg = (zS, (fndR d x w s lg).1.e) by unfold styC; rw [if_neg (fun h => h c0), if_pos c1]]
    try rfl
   ·simp +decide only [go_sem, zS_end, hb6, hb8]
    repeat with_reducible refine And.intro (by first | assumption | omega | (simp; done) | (simp; omega) | (intro hg; simp +decide only [go_sem, hg]; done) | (intro hg; simp +decide only [go_sem, hg]; omega)) ?_
    refine SET_fin ?_
    simp +decide only [go_sem, hb6, hb8]
    repeat with_reducible refine And.intro (by first | assumption | omega | (simp; done) | (simp; omega) | (intro hg; simp +decide only [go_sem, hg]; done) | (intro hg; simp +decide only [go_sem, hg]; omega)) ?_
    refine hκ _ _ ?_
    refine rt ?_
    refine retE ?_
    simp +decide only [go_sem, resD, resV, hfl, hft, zS_end, hb6, hb8, c0, c1]
    rw [show styC d x w s lg = (zS, (fndR d x w s lg).1.e) by unfold styC; rw [if_neg (fun h => h c0), if_pos c1]]
    try rfl
  ·try simp only [go_sem] at c1
   refine sk ?_
   refine sr_ [6, 7] [] [] fun κ ξ hκ hξ => ?_
   simp +decide only [go_sem, hfl, zS_end, hb6, hb8, c1]
   refine hκ _ _ ?_
   refine rt ?_
   refine retE ?_
   simp +decide only [go_sem, resD, resV, hfl, hft, zS_end, hb6, hb8, c0, c1]
   rw [show styC d x w s lg = ((fndR d x w s lg).1.st, 0) by unfold styC; rw [if_neg (fun h => h c0), if_neg (fun h => h c1)]]
   try rfl
theorem inr_w (d : Do) (x w s lg : Int) : PCall Tryz.prog (.func 15) [.ag (dorow d), .int .i64 x, .ag [.int .i64 w, .int .i64 s, .int .i64 lg]] (.tup [.int .i64 (innC d x w s lg).1, .int .i64 (innC d x w s lg).2]) := by
 have hfl := fnd_len d x w s lg
 have hft : List.take 33 (fndR d x w s lg).1.st = (fndR d x w s lg).1.st := List.take_of_length_le (by omega)
 refine PCall.le ?_
 refine fn_ Tryz.func15 (by rfl) (by rfl) (rs := [.tmp 6, .tmp 7]) (by rfl) (by simp [Tryz.f15]) ?_
 refine sr_ [1, 3, 5] [3, 5] [] fun κ ξ hκ hξ => ?_
 simp +decide only [go_sem]
 refine hκ _ _ ?_
 refine sr_ [1, 3, 5, 8, 9] [] [] fun κ ξ hκ hξ => ?_
 simp +decide only [go_sem]
 refine callF (opn_w _ _ _ _ _) ?_
 simp +decide only [go_sem]
 refine hκ _ _ ?_
 refine sq ?_
 refine sr_ [1, 3, 5, 8, 9, 24] [] [] fun κ ξ hκ hξ => ?_
 simp +decide only [go_sem]
 refine hκ _ _ ?_
 refine cd_ (fun c0 => ?_) (fun c0 => ?_)
 ·simp only [go_sem] at c0
  refine sr_ [6, 7] [] [] fun κ ξ hκ hξ => ?_
  simp +decide only [go_sem, c0]
  refine hκ _ _ ?_
  refine rt ?_
  refine retE ?_
  simp +decide only [go_sem, resD, resV, hfl, hft, c0]
  rw [show innC d x w s lg = (0, opE d x w s lg) by unfold innC; exact if_pos c0]
  try rfl
 ·simp only [go_sem] at c0
  obtain ⟨hdb, hrd, hid, htb, hix⟩ := opE_zero c0
  have hT := treB_true.1 htb
  have hlt := idx_in hix
  have hps : ∀ i, i < (pthX d.nodes x).length → idB (iat (pthX d.nodes x) i) = true ∧ 0 ≤ idx d.nodes (iat (pthX d.nodes x) i) := fun i hi => path_ok hT hlt.1 (mem_iat hi)
  have hpm := path_len hT hlt.1
  have hww := rdB_w hrd
  have hpm2 : (pthX d.nodes x).length ≤ 30 := hpm
  refine sk ?_
  refine sq ?_
  refine sr_ [1, 3, 5, 26, 27, 28] [] [] fun κ ξ hκ hξ => ?_
  simp +decide only [go_sem, c0]
  refine hκ _ _ ?_
  refine bl ?_
  refine lp (α := Nat) (fun i => mk [(1, .int .i64 x), (3, .el (dorow d)), (5, .el [.int .i64 w, .int .i64 s, .int .i64 lg]), (26, .sl 1 ((pthX d.nodes x).map irow) .no), (27, .int .i64 (pthX d.nodes x).length), (28, .int .i64 i)]) (fun _ => []) (fun i => i ≤ (pthX d.nodes x).length ∧ ∀ j, j < i → kdAt d.nodes (iat (pthX d.nodes x) j) = 1) (fun i => (pthX d.nodes x).length - i) 0 ⟨⟨by omega, by intro j hj; omega⟩, EnvLe.of_eq rfl, .refl _⟩ ?_
  rintro i ⟨hi, hj⟩
  refine sr_ [1, 3, 5, 26, 27, 28, 29] [] [] fun κ ξ hκ hξ => ?_
  simp +decide only [go_sem]
  refine hκ _ _ ?_
  refine sq ?_
  refine cd_ (fun c1 => ?_) (fun c1 => ?_)
  ·simp only [go_sem] at c1
   have hx := hps i (by omega)
   obtain ⟨k, hk, hkl⟩ : ∃ k : Nat, idx d.nodes (iat (pthX d.nodes x) i) = (k : Int) ∧ (k : Int) < d.nodes.length := by
    rcases idx_cases d.nodes (iat (pthX d.nodes x) i) with ⟨y, hy1, _, _, hy2⟩ | ⟨_, hy2⟩
    ·exact ⟨y, hy2, by omega⟩
    ·omega
   have hid2 := hx.1
   have hfx : fi d.nodes (iat (pthX d.nodes x) i) = (k : Int) := by unfold fi; rw [if_pos hx.2, hk]
   have hk0 : (0 : Int) ≤ (k : Int) := by omega
   have hkd : kdAt d.nodes (iat (pthX d.nodes x) i) = (nat d.nodes k).kind := by unfold kdAt; rw [hk, Int.toNat_natCast]
   refine sk ?_
   refine sq ?_
   refine bl ?_
   refine sr_ [1, 3, 5, 11, 26, 27, 28] [] [] fun κ ξ hκ hξ => ?_
   simp +decide only [go_sem, c1]
   repeat with_reducible refine an_ ?_
   refine hκ _ _ ?_
   refine sr_ [1, 3, 5, 12, 26, 27, 28] [] [] fun κ ξ hκ hξ => ?_
   simp +decide only [go_sem]
   refine callF (find_w _ _ _) ?_
   simp +decide only [go_sem, htb, hid2, hfx]
   refine hκ _ _ ?_
   refine sr_ [1, 3, 5, 26, 27, 28, 46] [] [] fun κ ξ hκ hξ => ?_
   simp +decide only [go_sem, hk0, hkl]
   refine hκ _ _ ?_
   refine cd_ (fun c2 => ?_) (fun c2 => ?_)
   ·try simp only [go_sem] at c2
    refine sr_ [6, 7] [] [] fun κ ξ hκ hξ => ?_
    simp +decide only [go_sem, c2]
    refine hκ _ _ ?_
    refine rt ?_
    refine retE ?_
    simp +decide only [go_sem, resD, resV, hfl, hft, c0, htb, c1, hid2, hfx, hk0, hkl, c2]
    rw [show innC d x w s lg = (0, 25) by unfold innC; rw [if_neg (fun h => h c0), if_pos (blk_no (i := i) (by omega) (by rw [hkd]; exact c2))]]
    try rfl
   ·try simp only [go_sem] at c2
    refine sk ?_
    refine rr_ [1, 3, 5, 26, 27, 28] [] [] fun κ ξ hκ hξ => ?_
    simp +decide only [go_sem, c2]
    refine hκ _ _ ?_
    refine ⟨i + 1, ⟨⟨by omega, ?_⟩, by omega⟩, EnvLe.of_eq (by rw [w64 (by omega)]; rfl), List.nil_sublist _⟩
    intro j h
    rcases Nat.lt_succ_iff_lt_or_eq.1 h with h | rfl
    ·exact hj j h
    ·rw [hkd]; exact c2
  ·simp only [go_sem] at c1
   have hbl := blk_yes (d := d) (x := x) fun j h => hj j (by omega)
   refine ex ?_
   refine srz_ [(15, [])] [9, 15] [] [] fun κ ξ hκ hξ => ?_
   simp +decide only [go_sem, c1]
   refine callF (fnd_w _ _ _ _ _) ?_
   simp +decide only [go_sem, hfl]
   intro b15 hb15
   refine hκ _ _ ?_
   refine sq ?_
   refine bl ?_
   refine sr_ [9, 15, 55] [] [] fun κ ξ hκ hξ => ?_
   simp +decide only [go_sem, hb15]
   refine hκ _ _ ?_
   refine cd_ (fun c3 => ?_) (fun c3 => ?_)
   ·try simp only [go_sem] at c3
    refine sr_ [6, 7] [] [] fun κ ξ hκ hξ => ?_
    simp +decide only [go_sem, hb15, c3]
    refine hκ _ _ ?_
    refine rt ?_
    refine retE ?_
    simp +decide only [go_sem, resD, resV, hfl, hft, c0, htb, c1, hb15, c3]
    rw [show innC d x w s lg = (0, (fndR d x w s lg).2) by unfold innC; rw [if_neg (fun h => h c0), if_neg (by rw [hbl]; simp), if_pos c3]]
    try rfl
   ·try simp only [go_sem] at c3
    refine sr_ [15, 59] [] [] fun κ ξ hκ hξ => ?_
    simp +decide only [go_sem, hfl, hb15, c3]
    refine hκ _ _ ?_
    refine cd_ (fun c4 => ?_) (fun c4 => ?_)
    ·simp only [go_sem] at c4
     refine srd_ [6, 7] [] [] [] fun κ ξ hκ hξ => ?_
     simp +decide only [go_sem, hfl, hb15, c4]
     refine hκ _ _ ?_
     refine rt ?_
     refine retE ?_
     simp +decide only [go_sem, resD, resV, hfl, hft, c0, htb, c1, hb15, c3, c4]
     rw [show innC d x w s lg = (0, (fndR d x w s lg).1.e) by unfold innC; rw [if_neg (fun h => h c0), if_neg (by rw [hbl]; simp), if_neg (fun h => h c3), if_pos c4]]
     try rfl
    ·simp only [go_sem] at c4
     obtain ⟨_, _, _, hfp, hfr⟩ := fnd_ok c3
     have hfp := hfp c4
     refine sk ?_
     refine sr_ [6, 7] [] [] fun κ ξ hκ hξ => ?_
     simp +decide only [go_sem, hfl, hb15, c4]
     refine callF (inn_w _ (by assumption) (by assumption) _ (by assumption)) ?_
     simp +decide only [go_sem, hb15]
     refine hκ _ _ ?_
     refine rt ?_
     refine retE ?_
     simp +decide only [go_sem, resD, resV, hfl, hft, c0, htb, c1, hb15, c3, c4]
     rw [show innC d x w s lg = (innV (fndR d x w s lg).1.st (fndR d x w s lg).1.room, 0) by unfold innC; rw [if_neg (fun h => h c0), if_neg (by rw [hbl]; simp), if_neg (fun h => h c3), if_neg (fun h => h c4)]]
     try rfl
theorem box_w (d : Do) (x w s lg : Int) : PCall Tryz.prog (.func 17) [.ag (dorow d), .int .i64 x, .ag [.int .i64 w, .int .i64 s, .int .i64 lg]] (.tup [.int .i64 (boxC d x w s lg).1, .int .i64 (boxC d x w s lg).2.1, .bool (boxC d x w s lg).2.2.1, .int .i64 (boxC d x w s lg).2.2.2]) := by
 have hfl := fnd_len d x w s lg
 have hft : List.take 33 (fndR d x w s lg).1.st = (fndR d x w s lg).1.st := List.take_of_length_le (by omega)
 refine PCall.le ?_
 refine fn_ Tryz.func17 (by rfl) (by rfl) (rs := [.tmp 6, .tmp 7, .tmp 8, .tmp 9]) (by rfl) (by simp [Tryz.f17]) ?_
 refine sr_ [1, 3, 5] [3, 5] [] fun κ ξ hκ hξ => ?_
 simp +decide only [go_sem]
 refine hκ _ _ ?_
 refine srz_ [(10, [])] [9, 10] [] [] fun κ ξ hκ hξ => ?_
 simp +decide only [go_sem]
 refine callF (fnd_w _ _ _ _ _) ?_
 simp +decide only [go_sem, hfl]
 intro b10 hb10
 refine hκ _ _ ?_
 refine sq ?_
 refine sr_ [9, 10, 24] [] [(2, 20)] fun κ ξ hκ hξ => ?_
 simp +decide only [go_sem, hfl, hb10]
 refine hκ _ _ ?_
 refine cd_ (fun c0 => ?_) (fun c0 => ?_)
 ·try simp only [go_sem] at c0
  refine sr_ [6, 7, 8, 9] [] [] fun κ ξ hκ hξ => ?_
  simp +decide only [go_sem, hb10]
  refine hκ _ _ ?_
  refine rt ?_
  refine retE ?_
  simp +decide only [go_sem, resD, resV, hfl, hft, hb10, c0]
  rw [show boxC d x w s lg = (0, 0, false, (fndR d x w s lg).2) by unfold boxC; exact if_pos (by simpa using c0)]
  try rfl
 ·try simp only [go_sem] at c0
  refine sk ?_
  refine srd_ [6, 7, 8, 9] [] [] [] fun κ ξ hκ hξ => ?_
  simp +decide only [go_sem, hfl, hb10, c0]
  refine hκ _ _ ?_
  refine rt ?_
  refine retE ?_
  simp +decide only [go_sem, resD, resV, hfl, hft, hb10, c0]
  rw [show boxC d x w s lg = ((fndR d x w s lg).1.box, (fndR d x w s lg).1.wide, true, 0) by unfold boxC; exact if_neg (by simpa using c0)]
  try rfl
end
section
attribute [local go_sem] List.length_map rowAt_n nrow rowAt_t trow rowAt_i irow
attribute [local go_sem] rowAt_e rowAt_tm rowAt_dc rowAt_ru tmrow dcrow rurow
attribute [local go_sem] rowAt_br rowAt_s rowAt_fo rowAt_ve rowAt_g rowAt_k grow krow srow brrow forow dorow verow
attribute [local go_sem] iD_all iD_len rw2_0 rw2_1 rw1_0 Int.toNat_one
attribute [local go_sem] pl_d33 pl_d34 pl_d35 pl_d36 pl_d37 pl_d38 pl_d39 pl_t33 pl_t34 pl_t35 pl_t36 pl_t37 pl_t38 pl_t39 pl_dlt pl_ge pl_len pl_all iD_len iD_all plR plT List.append_assoc firstS_len Nat.zero_add Int.reduceToNat
theorem cck_w (d : Do) (w s lg : Int) : PCall Tryz.prog (.func 19) [.ag (dorow d), .ag [.int .i64 w, .int .i64 s, .int .i64 lg]] (.int .i64 (chkC d w s lg)) := by
 refine PCall.le ?_
 refine fn_ Tryz.func19 (by rfl) (by rfl) (rs := [.tmp 4]) (by rfl) (by simp [Tryz.f19]) ?_
 refine sr_ [2, 3] [2, 3] [] fun κ ξ hκ hξ => ?_
 simp +decide only [go_sem]
 refine hκ _ _ ?_
 refine sq ?_
 refine sr_ [2, 3, 17] [] [(3, 13)] fun κ ξ hκ hξ => ?_
 simp +decide only [go_sem]
 refine callF (cov_w _) ?_
 simp +decide only [go_sem]
 refine vo_gc ?_
 simp +decide only [go_sem]
 refine gcF (crd_w _ _ _) ?_
 simp +decide only [go_sem]
 refine hκ _ _ ?_
 refine cd_ (fun c0 => ?_) (fun c0 => ?_)
 ·simp only [go_sem] at c0
  refine sr_ [4] [] [] fun κ ξ hκ hξ => ?_
  simp +decide only [go_sem]
  refine hκ _ _ ?_
  refine rt ?_
  refine retE ?_
  simp +decide only [go_sem, resD, resV, c0]
  rw [show chkC d w s lg = 1 by unfold chkC; exact if_neg fun h => by rcases c0 with c | c <;> first | (rw [h.1] at c; cases c) | (rw [h.2] at c; cases c)]
 ·simp only [go_sem] at c0
  have htb := (docB_tre c0.1).1
  have hT := treB_true.1 htb
  have hNl := hT.len
  refine sk ?_
  refine sr_ [2, 3, 5] [] [] fun κ ξ hκ hξ => ?_
  simp +decide only [go_sem, c0]
  intro b18 hb18
  refine hκ _ _ ?_
  refine sq ?_
  refine sr_ [2, 3, 5, 20, 21, 22] [] [] fun κ ξ hκ hξ => ?_
  simp +decide only [go_sem, hb18]
  refine hκ _ _ ?_
  refine bl ?_
  refine lp (α := Nat) (fun i => mk [(2, .el (dorow d)), (3, .el [.int .i64 w, .int .i64 s, .int .i64 lg]), (5, .mp b18), (20, .sl 5 (d.nodes.map nrow) .no), (21, .int .i64 d.nodes.length), (22, .int .i64 i)]) (fun i => [(b18, .map (hdE d w s lg i))]) (fun i => i ≤ d.nodes.length ∧ ∀ j, j < i → ckN d w s lg j = 0) (fun i => d.nodes.length - i) 0 ⟨⟨by omega, by intro j hj; omega⟩, EnvLe.of_eq rfl, .refl _⟩ ?_
  rintro i ⟨hi, hj⟩
  refine sr_ [2, 3, 5, 20, 21, 22, 23] [] [] fun κ ξ hκ hξ => ?_
  simp +decide only [go_sem, hb18]
  refine hκ _ _ ?_
  refine sq ?_
  refine cd_ (fun c1 => ?_) (fun c1 => ?_)
  ·simp only [go_sem] at c1
   have hiN : i < d.nodes.length := by omega
   have hgp := hd_get d w s lg hi (nat d.nodes i).par
   have hlp := hd_look d w s lg i (nat d.nodes i).par
   have hpp := hd_par (d := d) (w := w) (s := s) (lg := lg) (i := i)
   have hnew := hT.once i hiN
   have hfl := fnd_len d (nat d.nodes i).id w s lg
   have hheq := hidB_eq d w s lg i
   refine sk ?_
   refine sq ?_
   refine bl ?_
   refine srz_ [(7, [])] [2, 3, 5, 7, 20, 21, 22] [] [] fun κ ξ hκ hξ => ?_
   simp +decide only [go_sem, hb18, c1]
   repeat with_reducible refine an_ ?_
   intro b7 hb7
   refine hκ _ _ ?_
   refine sq ?_
   refine sr_ [2, 3, 5, 7, 20, 21, 22, 29] [] [] fun κ ξ hκ hξ => ?_
   simp +decide only [go_sem, hb18, hgp, hlp, hpp, hb7]
   refine hκ _ _ ?_
   refine cd_ (fun c2 => ?_) (fun c2 => ?_)
   ·try simp only [go_sem] at c2
    have hput := hd_put (w := w) (s := s) (lg := lg) hiN hnew (hheq.trans (if_pos c2))
    refine sr_ [2, 3, 5, 20, 21, 22] [] [] fun κ ξ hκ hξ => ?_
    simp +decide only [go_sem, hb18, hb7, c2, hput]
    refine hκ _ _ ?_
    refine ex ?_
    refine rr_ [2, 3, 5, 20, 21, 22] [] [] fun κ ξ hκ hξ => ?_
    simp +decide only [go_sem, hb18, hb7]
    refine hκ _ _ ?_
    refine ⟨i + 1, ⟨⟨by omega, ?_⟩, by omega⟩, EnvLe.of_eq (by rw [w64 (by omega)]; rfl), .refl _⟩
    intro j h
    rcases Nat.lt_succ_iff_lt_or_eq.1 h with h | rfl
    ·exact hj j h
    ·exact if_pos c2
   ·try simp only [go_sem] at c2
    have hput := hd_put (w := w) (s := s) (lg := lg) hiN hnew (hheq.trans (if_neg (by rw [c2]; simp)))
    unfold hideB at hput
    have hgs := hd_get d w s lg (i := i + 1) (by omega) (nat d.nodes i).id
    have hls := hd_look d w s lg (i + 1) (nat d.nodes i).id
    have hss := (hd_self (w := w) (s := s) (lg := lg) hT hiN).trans (hheq.trans (if_neg (by rw [c2]; simp)))
    unfold hideB at hss
    refine sk ?_
    refine srz_ [(8, [])] [2, 3, 5, 7, 8, 9, 20, 21, 22] [] [] fun κ ξ hκ hξ => ?_
    simp +decide only [go_sem, hb18, hb7, c2]
    refine callF (fnd_w _ _ _ _ _) ?_
    simp +decide only [go_sem, hb18, hfl, hb7]
    intro b8 hb8
    refine hκ _ _ ?_
    refine sq ?_
    refine bl ?_
    refine sr_ [2, 3, 5, 7, 8, 9, 20, 21, 22, 41] [] [] fun κ ξ hκ hξ => ?_
    simp +decide only [go_sem, hb18, hb7, hb8]
    refine hκ _ _ ?_
    refine cd_ (fun c3 => ?_) (fun c3 => ?_)
    ·try simp only [go_sem] at c3
     refine sr_ [4] [] [] fun κ ξ hκ hξ => ?_
     simp +decide only [go_sem, hb18, hb7, hb8, c3]
     refine hκ _ _ ?_
     refine rt ?_
     refine retE ?_
     simp +decide only [go_sem, resD, resV, c0, hb18, c1, hiN, hgp, hlp, hpp, hfl, hb7, c2, hput, hgs, hls, hss, hb8, c3]
     rw [show chkC d w s lg = (fndR d (nat d.nodes i).id w s lg).2 by
       have e : ckN d w s lg i = (fndR d (nat d.nodes i).id w s lg).2 := by unfold ckN; rw [if_neg (by rw [c2]; simp), if_pos c3]
       rw [chk_some hiN c0.1 c0.2 hj (by rw [e]; exact c3), e]]
    ·try simp only [go_sem] at c3
     refine sr_ [2, 3, 5, 7, 8, 20, 21, 22, 45] [] [] fun κ ξ hκ hξ => ?_
     simp +decide only [go_sem, hb18, hfl, hb7, hb8, c3]
     refine hκ _ _ ?_
     refine cd_ (fun c4 => ?_) (fun c4 => ?_)
     ·try simp only [go_sem] at c4
      refine sr_ [4] [] [] fun κ ξ hκ hξ => ?_
      simp +decide only [go_sem, hb18, hfl, hb7, hb8, c4]
      refine hκ _ _ ?_
      refine rt ?_
      refine retE ?_
      simp +decide only [go_sem, resD, resV, c0, hb18, c1, hiN, hgp, hlp, hpp, hfl, hb7, c2, hput, hgs, hls, hss, hb8, c3, c4]
      rw [show chkC d w s lg = (fndR d (nat d.nodes i).id w s lg).1.e by
        have e : ckN d w s lg i = (fndR d (nat d.nodes i).id w s lg).1.e := by unfold ckN; rw [if_neg (by rw [c2]; simp), if_neg (fun h => h c3), if_pos c4]
        rw [chk_some hiN c0.1 c0.2 hj (by rw [e]; exact c4), e]]
     ·try simp only [go_sem] at c4
      refine sk ?_
      refine sr_ [2, 3, 5, 7, 8, 20, 21, 22] [] [] fun κ ξ hκ hξ => ?_
      simp +decide only [go_sem, hb18, hfl, hb7, hput, hb8, c4]
      refine hκ _ _ ?_
      refine sr_ [2, 3, 5, 20, 21, 22, 75] [] [(5, 64), (12, 71)] fun κ ξ hκ hξ => ?_
      simp +decide only [go_sem, hb18, hfl, hb7, hgs, hls, hss, hb8]
      refine hκ _ _ ?_
      refine cd_ (fun c5 => ?_) (fun c5 => ?_)
      ·try simp only [go_sem] at c5
       refine sr_ [4] [] [] fun κ ξ hκ hξ => ?_
       simp +decide only [go_sem, hb18, hb7, hb8, c5]
       refine hκ _ _ ?_
       refine rt ?_
       refine retE ?_
       simp +decide only [go_sem, resD, resV, c0, hb18, c1, hiN, hgp, hlp, hpp, hfl, hb7, c2, hput, hgs, hls, hss, hb8, c3, c4, c5]
       rw [show chkC d w s lg = 21 by
         have e : ckN d w s lg i = 21 := by unfold ckN hideB; rw [if_neg (by rw [c2]; simp), if_neg (fun h => h c3), if_neg (fun h => h c4)]; exact if_pos ⟨decide_eq_false c5.1.1, c5.1.2, c5.2⟩
         rw [chk_some hiN c0.1 c0.2 hj (by rw [e]; decide), e]]
      ·try simp only [go_sem] at c5
       refine sk ?_
       refine rr_ [2, 3, 5, 20, 21, 22] [] [] fun κ ξ hκ hξ => ?_
       simp +decide only [go_sem, hb18, hb7, hb8]
       refine hκ _ _ ?_
       refine ⟨i + 1, ⟨⟨by omega, ?_⟩, by omega⟩, EnvLe.of_eq (by rw [w64 (by omega)]; rfl), .refl _⟩
       intro j h
       rcases Nat.lt_succ_iff_lt_or_eq.1 h with h | rfl
       ·exact hj j h
       ·unfold ckN hideB
        rw [if_neg (by rw [c2]; simp), if_neg (fun h => h c3), if_neg (fun h => h c4)]
        exact if_neg fun h => by
         rcases c5 with (c | c) | c
         ·rw [decide_eq_true c] at h; exact absurd h.1 (by simp)
         ·exact c h.2.1
         ·rw [c] at h; exact absurd h.2.2 (by simp)
  ·simp only [go_sem] at c1
   refine ex ?_
   refine sr_ [4] [] [] fun κ ξ hκ hξ => ?_
   simp +decide only [go_sem, hb18, c1]
   refine hκ _ _ ?_
   refine rt ?_
   refine retE ?_
   simp +decide only [go_sem, resD, resV, c0, hb18, c1]
   rw [chk_none c0.1 c0.2 fun j h => hj j (by omega)]
end
section
section
variable {d : Do} {w s lg : Int}
theorem plSeq_le : ∀ (xs : List Int) (p : Pl), (plSeq d w s lg p xs).length ≤ xs.length
 | [], _ => Nat.le_refl _
 | x :: xs, p => by
  rw [plSeq, List.length_cons, List.length_cons]
  split
  ·have := plSeq_le xs (plNext (plStep d w s lg p x)); omega
  ·simp
theorem plSeq_id : ∀ (xs : List Int) (p : Pl) (k : Nat) (q : Pl), (plSeq d w s lg p xs)[k]? = some q → xs[k]? = some q.id
 | [], _, _, _, h => by simp [plSeq] at h
 | x :: xs, p, 0, q, h => by
  rw [plSeq, List.getElem?_cons_zero] at h
  cases h; rfl
 | x :: xs, p, k + 1, q, h => by
  rw [plSeq, List.getElem?_cons_succ] at h
  rw [List.getElem?_cons_succ]
  split at h
  ·exact plSeq_id xs _ k q h
  ·simp at h
theorem plSeq_ne {x : Int} {xs : List Int} {p : Pl} : plSeq d w s lg p (x :: xs) ≠ [] := by rw [plSeq]; simp
theorem lastP_cons {q : Pl} {L : List Pl} (h : L ≠ []) : lastP (q :: L) = lastP L := by
 unfold lastP
 rw [List.getLast?_cons, List.getLast?_eq_some_getLast h]; rfl
theorem plSeq_snoc (x : Int) : ∀ (xs : List Int) (p : Pl), xs ≠ [] → plSeq d w s lg p (xs ++ [x]) = if (lastP (plSeq d w s lg p xs)).e = 0 ∧ (plSeq d w s lg p xs).length = xs.length then plSeq d w s lg p xs ++ [plStep d w s lg (plNext (lastP (plSeq d w s lg p xs))) x] else plSeq d w s lg p xs
 | [], _, h => absurd rfl h
 | [a], p, _ => by
  have e1 : plSeq d w s lg p [a] = [plStep d w s lg p a] := by
   rw [plSeq, plSeq]; split <;> rfl
  rw [e1, List.singleton_append, plSeq]
  by_cases h : (plStep d w s lg p a).e = 0
  ·rw [if_pos h, if_pos ⟨h, rfl⟩, plSeq, plSeq]
   simp [lastP]
  ·rw [if_neg h, if_neg (fun hc => h hc.1)]
 | a :: b :: xs, p, _ => by
  have ih := plSeq_snoc x (b :: xs) (plNext (plStep d w s lg p a)) (by simp)
  rw [List.cons_append, plSeq, plSeq]
  by_cases h : (plStep d w s lg p a).e = 0
  ·rw [if_pos h, if_pos h, ih, lastP_cons plSeq_ne]
   simp only [List.length_cons, Nat.add_right_cancel_iff]
   split <;> rfl
  ·rw [if_neg h, if_neg h, if_neg (fun hc => by simp at hc)]
theorem pathL_up {l : List Nd} {i : Nat} (h : 0 ≤ pix l i) : pathL l i = pathL l (pix l i).toNat ++ [(nat l i).id] := by
 unfold pathL upL
 rw [chn_eq l i, if_pos h, List.map_cons, List.reverse_cons]
theorem pathL_root {l : List Nd} {i : Nat} (h : ¬ 0 ≤ pix l i) : pathL l i = [(nat l i).id] := by
 unfold pathL upL
 rw [chn_eq l i, if_neg h]; rfl
theorem id_inj {l : List Nd} (hT : Tree l) {i j : Nat} (hi : i < l.length) (hj : j < l.length) (h : (nat l i).id = (nat l j).id) : i = j := by
 have h1 := idx_self hT hi
 rw [h, idx_self hT hj] at h1
 omega
theorem pix_lt' {l : List Nd} {i : Nat} (h : 0 ≤ pix l i) : (pix l i).toNat < i := by have := pix_lt l i; omega
theorem path_notin {l : List Nd} (hT : Tree l) {i : Nat} (hi : i < l.length) (h : 0 ≤ pix l i) : (nat l i).id ∉ pathL l (pix l i).toNat := by
 intro hm
 have hj := pix_lt' h
 obtain ⟨x, hx, e⟩ := path_mem hm
 have := id_inj hT (by omega) hi e
 omega
theorem path_last {l : List Nd} {i : Nat} : (pathL l i)[(pathL l i).length - 1]? = some (nat l i).id := by
 by_cases h : 0 ≤ pix l i
 ·rw [pathL_up h]; simp
 ·rw [pathL_root h]; rfl
theorem path_at {l : List Nd} (hT : Tree l) {i k : Nat} (hi : i < l.length) (h : (pathL l i)[k]? = some (nat l i).id) : k + 1 = (pathL l i).length := by
 by_cases hp : 0 ≤ pix l i
 ·rw [pathL_up hp] at h ⊢
  rw [List.length_append, List.length_singleton]
  rcases Nat.lt_or_ge k (pathL l (pix l i).toNat).length with hk | hk
  ·rw [List.getElem?_append_left hk] at h
   exact absurd (List.mem_of_getElem? h) (path_notin hT hi hp)
  ·rw [List.getElem?_append_right hk] at h
   cases e : k - (pathL l (pix l i).toNat).length with
   | zero => omega
   | succ m => rw [e] at h; simp at h
 ·rw [pathL_root hp] at h ⊢
  cases k with
  | zero => rfl
  | succ m => simp at h
theorem lastP_get {L : List Pl} (h : L ≠ []) : L[L.length - 1]? = some (lastP L) := by
 unfold lastP
 rw [List.getLast?_eq_getElem?]
 have : L.length - 1 < L.length := by have := List.length_pos_iff.2 h; omega
 rw [List.getElem?_eq_getElem this]; rfl
theorem lastP_id {i : Nat} (hT : Tree d.nodes) (hi : i < d.nodes.length) (p : Pl) : (lastP (plSeq d w s lg p (pathL d.nodes i))).id = (nat d.nodes i).id ↔ (plSeq d w s lg p (pathL d.nodes i)).length = (pathL d.nodes i).length := by
 have hne : plSeq d w s lg p (pathL d.nodes i) ≠ [] := by
  cases e : pathL d.nodes i with
  | nil => exact absurd e (pathL_ne _ _)
  | cons a l => exact plSeq_ne
 have hp := List.length_pos_iff.2 hne
 have h1 := plSeq_id _ _ _ _ (lastP_get hne)
 constructor
 ·intro h
  rw [h] at h1
  have := path_at hT hi h1
  omega
 ·intro h
  rw [h, path_last] at h1
  exact (Option.some.inj h1).symm
theorem idx_pth {l : List Nd} (hT : Tree l) {i : Nat} (hi : i < l.length) : pthX l (nat l i).id = pathL l i := by
 unfold pthX
 rw [idx_self hT hi, Int.toNat_natCast]
theorem opE_node {i : Nat} (hd : docB d = true) (hr : rdB w s lg = true) (hi : i < d.nodes.length) : opE d (nat d.nodes i).id w s lg = 0 := by
 have hT := treB_true.1 (docB_tre hd).1
 unfold opE gerr
 rw [if_pos ⟨hd, hr, tree_id hT hi⟩, if_pos (by rw [(docB_tre hd).1, tree_id hT hi]; rfl), if_pos (by rw [idx_self hT hi]; omega)]
theorem fnd_eq {i : Nat} (hd : docB d = true) (hr : rdB w s lg = true) (hi : i < d.nodes.length) : fndR d (nat d.nodes i).id w s lg = if (plSeq d w s lg (plF w) (pathL d.nodes i)).length = (pathL d.nodes i).length then (lastP (plSeq d w s lg (plF w) (pathL d.nodes i)), 0) else (pl0, 3) := by
 have hT := treB_true.1 (docB_tre hd).1
 unfold fndR
 rw [if_neg (fun h => h (opE_node hd hr hi))]
 unfold plsX
 rw [idx_pth hT hi]
 by_cases h : (lastP (plSeq d w s lg (plF w) (pathL d.nodes i))).id = (nat d.nodes i).id
 ·rw [if_neg (fun hn => hn h), if_pos ((lastP_id hT hi _).1 h)]
 ·rw [if_pos h, if_neg (fun hn => h ((lastP_id hT hi _).2 hn))]
theorem fnd_root {i : Nat} (hd : docB d = true) (hr : rdB w s lg = true) (hi : i < d.nodes.length) (h : ¬ 0 ≤ pix d.nodes i) : fndR d (nat d.nodes i).id w s lg = (plStep d w s lg (plF w) (nat d.nodes i).id, 0) := by
 have e : plSeq d w s lg (plF w) [(nat d.nodes i).id] = [plStep d w s lg (plF w) (nat d.nodes i).id] := by
  rw [plSeq, plSeq]; split <;> rfl
 rw [fnd_eq hd hr hi, pathL_root h, e]
 exact if_pos rfl
theorem fnd_up {i : Nat} (hd : docB d = true) (hr : rdB w s lg = true) (hi : i < d.nodes.length) (h : 0 ≤ pix d.nodes i) : fndR d (nat d.nodes i).id w s lg = if (fndR d (nat d.nodes (pix d.nodes i).toNat).id w s lg).2 = 0 ∧ (fndR d (nat d.nodes (pix d.nodes i).toNat).id w s lg).1.e = 0 then (plStep d w s lg (plNext (fndR d (nat d.nodes (pix d.nodes i).toNat).id w s lg).1) (nat d.nodes i).id, 0) else (pl0, 3) := by
 have hj := pix_lt' h
 have hle := plSeq_le (d := d) (w := w) (s := s) (lg := lg) (pathL d.nodes (pix d.nodes i).toNat) (plF w)
 rw [fnd_eq hd hr hi, fnd_eq (i := (pix d.nodes i).toNat) hd hr (by omega), pathL_up h, plSeq_snoc _ _ _ (pathL_ne _ _), List.length_append, List.length_singleton]
 generalize plSeq d w s lg (plF w) (pathL d.nodes (pix d.nodes i).toNat) = L at hle ⊢
 generalize (pathL d.nodes (pix d.nodes i).toNat).length = n at hle ⊢
 by_cases hl : L.length = n
 ·have e1 : (if L.length = n then (lastP L, (0 : Int)) else (pl0, 3)) = (lastP L, 0) := if_pos hl
  rw [e1]
  by_cases he : (lastP L).e = 0
  ·have h1 : (lastP L).e = 0 ∧ L.length = n := ⟨he, hl⟩
   have h2 : ((lastP L, (0 : Int)).2 = 0 ∧ (lastP L, (0 : Int)).1.e = 0) := ⟨rfl, he⟩
   rw [if_pos h1, if_pos h2, if_pos (by rw [List.length_append, hl]; rfl)]
   simp [lastP]
  ·have h1 : ¬ ((lastP L).e = 0 ∧ L.length = n) := fun hc => he hc.1
   have h2 : ¬ ((lastP L, (0 : Int)).2 = 0 ∧ (lastP L, (0 : Int)).1.e = 0) := fun hc => he hc.2
   rw [if_neg h1, if_neg h2, if_neg (by omega)]
 ·have e1 : (if L.length = n then (lastP L, (0 : Int)) else (pl0, 3)) = (pl0, 3) := if_neg hl
  have h1 : ¬ ((lastP L).e = 0 ∧ L.length = n) := fun hc => hl hc.2
  have h2 : ¬ (((pl0, (3 : Int)) : Pl × Int).2 = 0 ∧ ((pl0, (3 : Int)) : Pl × Int).1.e = 0) := fun hc => by have := hc.1; simp at this
  rw [e1, if_neg h1, if_neg h2, if_neg (by omega)]
theorem evV_err {vs : List Int} {e : Ex} (he : exB e = true) (hs : 50 ≤ s ∧ s ≤ 300) (hv : vs.all okV = true) (hw : 0 ≤ w ∧ w ≤ 1000000) : (evV w s vs e).2 = 0 ∨ (evV w s vs e).2 = 3 := by
 unfold evV
 rw [if_pos ⟨⟨he, hs, hv⟩, hw⟩]
 show (if _ then _ else _) = (0 : Int) ∨ (if _ then _ else _) = (3 : Int)
 split <;> simp
theorem drop_ok {st : List Int} (h : parB st = true) (hl : st.length = 33) : (st.drop 25).all okV = true := by
 rw [List.all_eq_true]
 intro v hv
 obtain ⟨k, hk, e⟩ := List.mem_iff_getElem.1 (List.mem_of_mem_drop hv)
 have := parB_lim h hl k
 rw [iat, List.getD_eq_getElem?_getD, List.getElem?_eq_getElem hk] at this
 simp only [Option.getD_some, e] at this
 unfold okV
 exact decide_eq_true (by omega)
theorem stF_err {rs : List Ru} {cs : List Cl} {vs : List Int} (hr : rulesB rs = true) (hc : ∀ q, clOK rs (clat cs q)) (hs : 50 ≤ s ∧ s ≤ 300) (hv : vs.all okV = true) (hw : 0 ≤ w ∧ w ≤ 1000000) : ∀ (n p : Nat) (out : List Int), (stF rs cs w s vs n p out).2 = 0 ∨ (stF rs cs w s vs n p out).2 = 3
 | 0, _, _ => .inl rfl
 | n + 1, p, out => by
  unfold stF
  split
  ·rename_i h1
   obtain ⟨⟨a, b⟩, c, e⟩ := hc p h1
   have hx := (((rules_dc hr).2 (clat cs p).ru.toNat (by omega)).2 (clat cs p).k.toNat (by omega)).2
   have := evV_err hx hs hv hw
   split
   ·exact stF_err hr hc hs hv hw n _ _
   ·exact this
  ·exact stF_err hr hc hs hv hw n _ _
theorem stF_out {rs : List Ru} {cs : List Cl} {vs : List Int} : ∀ (n p : Nat) (out : List Int), (stF rs cs w s vs n p out).2 ≠ 0 → (stF rs cs w s vs n p out).1 = zS
 | 0, _, _, h => absurd rfl h
 | n + 1, p, out, h => by
  unfold stF at h ⊢
  split at h
  ·rename_i h1
   rw [if_pos h1]
   split at h
   ·rename_i h2; rw [if_pos h2]; exact stF_out n _ _ h
   ·rename_i h2; rw [if_neg h2]
  ·rename_i h1; rw [if_neg h1]; exact stF_out n _ _ h
theorem styR_out {l : List Nd} {rs : List Ru} {x : Int} {par : List Int} {wd bx : Int} (h : (styR l rs x w s lg par wd bx).2 ≠ 0) : (styR l rs x w s lg par wd bx).1 = zS := by
 unfold styR at h ⊢
 split at h
 ·rename_i h1
  rw [if_pos h1]
  split at h
  ·rename_i h2
   rw [if_pos h2]
   unfold styI at h ⊢
   split at h
   ·rename_i h3; rw [if_pos h3]; exact stF_out _ _ _ h
   ·rename_i h3; rw [if_neg h3]
  ·rename_i h2; rw [if_neg h2]
 ·rename_i h1; rw [if_neg h1]
theorem styR_err {l : List Nd} {rs : List Ru} {x : Int} {par : List Int} {wd bx : Int} (hl : treB l = true) (hx : idB x = true ∧ 0 ≤ idx l x) (hr : rulesB rs = true) (hrd : rdB w s lg = true) (hp : parB par = true) (hpl : par.length = 33) (hw : 0 ≤ wd ∧ wd ≤ 1000000) (hb : isBx bx = true) :
  (styR l rs x w s lg par wd bx).2 = 0 ∨ (styR l rs x w s lg par wd bx).2 = 3 := by
 have hck : ckE l rs x w s lg bx = 0 := by
  unfold ckE ckB
  rw [hl, hr, hrd, hb]
  simp [hx.1, hx.2]
 have hs := (rdB_w hrd).2
 unfold styR
 rw [if_pos ⟨hp, hw⟩, if_pos hck]
 unfold styI
 have h1 := stF_err (w := wd) (s := s) (vs := par.drop 25) hr (claims_ok l rs x w s lg bx) hs (drop_ok hp hpl) hw 8 25 (st0 par)
 split
 ·rename_i h0
  exact stF_err hr (claims_ok l rs x w s lg bx) hs (drop_ok (stF_ok _ _ _ (st0_par hpl hp) h0) (stF_len _ _ _ _ _ _ _ _ (st0_len hpl))) hw 24 1 _
 ·exact h1
end
end
section
section
variable {d : Do} {w s lg : Int}
structure PG (p : Pl) : Prop where
 len : p.st.length = 33
 par : parB p.st = true
 room : 0 ≤ p.room ∧ p.room ≤ 1000000
 wide : isBx p.wide = true
 none : p.box = 0 → p.wide = -1
theorem PG_first (hr : rdB w s lg = true) : PG (plF w) := ⟨firstS_len, firstS_par, by have := rdB_w hr; show 0 ≤ w ∧ w ≤ 1000000; omega, rfl, fun _ => rfl⟩
theorem isBx_of {n : Int} (h : 0 ≤ n ∧ n ≤ 1000000) : isBx n = true := by
 unfold isBx
 exact decide_eq_true (by omega)
theorem PG_next {q : Pl} (h1 : q.st.length = 33) (h2 : parB q.st = true) (h3 : 0 ≤ q.room ∧ q.room ≤ 1000000) (h4 : isBx q.wide = true) (h5 : q.box = 0 → q.wide = -1) (h6 : q.id ≠ 0) : PG (plNext q) := by
 have hi := innV_lim h2 h1 h3
 unfold plNext
 split
 ·split
  ·exact ⟨h1, h2, hi, isBx_of hi, fun h => absurd h h6⟩
  ·exact ⟨h1, h2, hi, h4, h5⟩
 ·exact ⟨h1, h2, h3, h4, h5⟩
theorem PG_step {p : Pl} (hp : PG p) (hd : docB d = true) (hr : rdB w s lg = true) {i : Nat} (hi : i < d.nodes.length) : (plStep d w s lg p (nat d.nodes i).id).e = 0 ∨ (plStep d w s lg p (nat d.nodes i).id).e = 3 := by
 have hT := treB_true.1 (docB_tre hd).1
 exact styR_err (docB_tre hd).1 ⟨tree_id hT hi, by rw [idx_self hT hi]; omega⟩ (docB_tre hd).2 hr hp.par hp.len hp.room hp.wide
theorem kd_node {l : List Nd} (hT : Tree l) {i : Nat} (hi : i < l.length) : kdAt l (nat l i).id = (nat l i).kind := by
 unfold kdAt
 rw [idx_self hT hi, Int.toNat_natCast]
theorem blk_up {i : Nat} (hT : Tree d.nodes) (hi : i < d.nodes.length) (h : 0 ≤ pix d.nodes i) : blkB d (nat d.nodes i).id = (blkB d (nat d.nodes (pix d.nodes i).toNat).id && decide ((nat d.nodes i).kind = 1)) := by
 have hj := pix_lt' h
 unfold blkB
 rw [idx_pth hT hi, idx_pth hT (by omega), pathL_up h, List.all_append, List.all_cons, List.all_nil, Bool.and_true, kd_node hT hi]
theorem blk_root {i : Nat} (hT : Tree d.nodes) (hi : i < d.nodes.length) (h : ¬ 0 ≤ pix d.nodes i) : blkB d (nat d.nodes i).id = decide ((nat d.nodes i).kind = 1) := by
 unfold blkB
 rw [idx_pth hT hi, pathL_root h, List.all_cons, List.all_nil, Bool.and_true, kd_node hT hi]
structure NG (d : Do) (w s lg : Int) (i : Nat) : Prop where
 e : (fndR d (nat d.nodes i).id w s lg).1.e = 0 ∨ (fndR d (nat d.nodes i).id w s lg).1.e = 3
 wide : isBx (fndR d (nat d.nodes i).id w s lg).1.wide = true
 none : (fndR d (nat d.nodes i).id w s lg).1.box = 0 → (fndR d (nat d.nodes i).id w s lg).1.wide = -1
 own : (fndR d (nat d.nodes i).id w s lg).1.own = blkB d (nat d.nodes i).id
 out : (fndR d (nat d.nodes i).id w s lg).1.e ≠ 0 → (fndR d (nat d.nodes i).id w s lg).1.st = zS
theorem id_pos {l : List Nd} (hT : Tree l) {i : Nat} (hi : i < l.length) : (nat l i).id ≠ 0 := by
 have h := tree_id hT hi
 unfold idB at h
 have := of_decide_eq_true h
 omega
theorem PG_of (hd : docB d = true) (hr : rdB w s lg = true) {i : Nat} (hi : i < d.nodes.length) (h2 : (fndR d (nat d.nodes i).id w s lg).2 = 0) (he : (fndR d (nat d.nodes i).id w s lg).1.e = 0) (hg : NG d w s lg i) : PG (plNext (fndR d (nat d.nodes i).id w s lg).1) := by
 have hT := treB_true.1 (docB_tre hd).1
 obtain ⟨_, _, hid, hp, hro⟩ := fnd_ok h2
 exact PG_next (fnd_len ..) (hp he) hro hg.wide hg.none (by rw [hid]; exact id_pos hT hi)
theorem fnd_all (hd : docB d = true) (hr : rdB w s lg = true) : ∀ (i : Nat), i < d.nodes.length → (((fndR d (nat d.nodes i).id w s lg).2 = 0 ∧ NG d w s lg i) ∨ fndR d (nat d.nodes i).id w s lg = (pl0, 3)) := by
 have hT := treB_true.1 (docB_tre hd).1
 intro i
 induction i using Nat.strongRecOn with
 | _ i ih =>
  intro hi
  by_cases hp : 0 ≤ pix d.nodes i
  ·have hj := pix_lt' hp
   have hfu := fnd_up hd hr hi hp
   by_cases hc : (fndR d (nat d.nodes (pix d.nodes i).toNat).id w s lg).2 = 0 ∧ (fndR d (nat d.nodes (pix d.nodes i).toNat).id w s lg).1.e = 0
   ·rw [if_pos hc] at hfu
    rcases ih _ hj (by omega) with ⟨_, hg⟩ | h3
    ·have hpg := PG_of hd hr (by omega) hc.1 hc.2 hg
     left
     refine ⟨by rw [hfu], ?_, ?_, ?_, ?_, ?_⟩
     ·rw [hfu]; exact PG_step hpg hd hr hi
     ·rw [hfu]; exact hpg.wide
     ·rw [hfu]; exact hpg.none
     ·rw [hfu, blk_up hT hi hp, ← hg.own]
      show ((plNext _).own && decide (kdAt d.nodes _ = 1)) = _
      rw [kd_node hT hi]
      congr 1
      unfold plNext
      split
      ·split <;> rfl
      ·rfl
     ·rw [hfu]; exact fun h => styR_out h
    ·rw [h3] at hc; exact absurd hc.1 (by simp)
   ·rw [if_neg hc] at hfu
    exact .inr hfu
  ·have hfu := fnd_root hd hr hi hp
   left
   have hpg := PG_first hr
   refine ⟨by rw [hfu], ?_, ?_, ?_, ?_, ?_⟩
   ·rw [hfu]; exact PG_step hpg hd hr hi
   ·rw [hfu]; exact hpg.wide
   ·rw [hfu]; exact hpg.none
   ·rw [hfu, blk_root hT hi hp]
    show (true && decide (kdAt d.nodes _ = 1)) = _
    rw [kd_node hT hi, Bool.true_and]
   ·rw [hfu]; exact fun h => styR_out h
theorem styC_of (hd : docB d = true) (hr : rdB w s lg = true) {i : Nat} (hi : i < d.nodes.length) (h2 : (fndR d (nat d.nodes i).id w s lg).2 = 0) : styC d (nat d.nodes i).id w s lg = ((fndR d (nat d.nodes i).id w s lg).1.st, (fndR d (nat d.nodes i).id w s lg).1.e) := by
 unfold styC
 rw [if_neg (fun h => h h2)]
 rcases fnd_all hd hr i hi with ⟨_, hg⟩ | h3
 ·by_cases he : (fndR d (nat d.nodes i).id w s lg).1.e = 0
  ·rw [if_neg (fun h => h he), he]
  ·rw [if_pos he, hg.out he]
 ·rw [h3] at h2; simp at h2
theorem styC_bad {x : Int} (h : fndR d x w s lg = (pl0, 3)) : styC d x w s lg = (zS, 3) := by
 unfold styC
 rw [h]; exact if_pos (by simp)
theorem innC_of (hd : docB d = true) (hr : rdB w s lg = true) {i : Nat} (hi : i < d.nodes.length) (h : blkB d (nat d.nodes i).id = true) (h2 : (fndR d (nat d.nodes i).id w s lg).2 = 0) (he : (fndR d (nat d.nodes i).id w s lg).1.e = 0) : innC d (nat d.nodes i).id w s lg = (innV (fndR d (nat d.nodes i).id w s lg).1.st (fndR d (nat d.nodes i).id w s lg).1.room, 0) := by
 unfold innC
 rw [if_neg (fun h => h (opE_node hd hr hi)), if_neg (by rw [h]; simp), if_neg (fun h => h h2), if_neg (fun h => h he)]
end
end
section
def eNds : List Nd := [⟨1, 0, 1, 0, []⟩, ⟨2, 1, 1, 0, []⟩, ⟨3, 2, 2, 0, [97]⟩]
def eRus : List Ru := [⟨0, [⟨0, 0, 1, false⟩], [], [⟨3, .mk 1 10 []⟩, ⟨21, .mk 1 1 []⟩]⟩, ⟨0, [⟨0, 0, 2, false⟩], [], [⟨4, .mk 2 50 []⟩, ⟨3, .mk 1 5 []⟩]⟩, ⟨0, [⟨2, 0, 0, false⟩], [⟨6, 300⟩], [⟨1, .mk 2 100 []⟩]⟩]
def eRu4 : Ru := ⟨0, [⟨2, 0, 0, false⟩], [], [⟨21, .mk 1 1 []⟩]⟩
def eBrs : List Br := [⟨1, 1, []⟩, ⟨1, 1, []⟩, ⟨1, 1, []⟩, ⟨1, 1, []⟩]
def eDoc : Do := ⟨eNds, eRus, [⟨[], []⟩], eBrs⟩
def eBad : Do := ⟨eNds, eRus ++ [eRu4], [⟨[], []⟩], eBrs⟩
theorem fok_nil : fok [] [] = true := by
 rw [fok_true]
 exact ⟨by simp, fun i hi => by simp at hi, fun i hi => by simp at hi⟩
theorem doc_of {d : Do} (h1 : ((1 ≤ d.fonts.length ∧ d.fonts.length ≤ 8) ∧ d.breaks.length = 4)) (h2 : treB d.nodes = true) (h3 : rulesB d.rules = true) (h4 : d.fonts = [⟨[], []⟩]) (h5 : d.breaks.all brB = true) : docB d = true := by
 unfold docB
 rw [h2, h3, h5, decide_eq_true h1, h4]
 simp [fokB, fok_nil]
theorem e_doc : docB eDoc = true := doc_of (by decide) (by kernel_rfl) (by kernel_rfl) rfl (by kernel_rfl)
theorem e_bad : docB eBad = true := doc_of (by decide) (by kernel_rfl) (by kernel_rfl) rfl (by kernel_rfl)
theorem e_nil : docB do0 = false := by
 unfold docB do0
 rw [decide_eq_false (by simp)]
 simp
theorem e_op {d : Do} (hd : docB d = true) {x w s lg : Int} (hr : rdB w s lg = true) (hi : idB x = true) (hg : gerr d.nodes x = 0) : opE d x w s lg = 0 := by
 unfold opE
 rw [if_pos ⟨hd, hr, hi⟩, hg]
def fndK (d : Do) (x w s lg : Int) : Pl × Int := if (lastP (plsX d x w s lg)).id ≠ x then (pl0, 3) else (lastP (plsX d x w s lg), 0)
def styK (d : Do) (x w s lg : Int) : List Int × Int := if (fndK d x w s lg).2 ≠ 0 then (zS, (fndK d x w s lg).2) else if (fndK d x w s lg).1.e ≠ 0 then (zS, (fndK d x w s lg).1.e) else ((fndK d x w s lg).1.st, 0)
def innK (d : Do) (x w s lg : Int) : Int × Int := if blkB d x = false then (0, 25) else if (fndK d x w s lg).2 ≠ 0 then (0, (fndK d x w s lg).2) else if (fndK d x w s lg).1.e ≠ 0 then (0, (fndK d x w s lg).1.e) else (innV (fndK d x w s lg).1.st (fndK d x w s lg).1.room, 0)
def boxK (d : Do) (x w s lg : Int) : Int × Int × Bool × Int := if (fndK d x w s lg).2 ≠ 0 ∨ (fndK d x w s lg).1.box = 0 then (0, 0, false, (fndK d x w s lg).2) else ((fndK d x w s lg).1.box, (fndK d x w s lg).1.wide, true, 0)
section
variable {d : Do} {x w s lg : Int}
theorem fnd_k (h : opE d x w s lg = 0) : fndR d x w s lg = fndK d x w s lg := by
 unfold fndR fndK
 rw [if_neg (fun hn => hn h)]
theorem sty_k (h : opE d x w s lg = 0) : styC d x w s lg = styK d x w s lg := by
 unfold styC styK
 rw [fnd_k h]
theorem inn_k (h : opE d x w s lg = 0) : innC d x w s lg = innK d x w s lg := by
 unfold innC innK
 rw [if_neg (fun hn => hn h), fnd_k h]
theorem box_k (h : opE d x w s lg = 0) : boxC d x w s lg = boxK d x w s lg := by
 unfold boxC boxK
 rw [fnd_k h]
theorem hid_none (h : ∀ j, hideB d w s lg j = false) : ∀ i, hidB d w s lg i = false := by
 intro i
 induction i using Nat.strongRecOn with
 | _ i ih =>
  rw [hidB]
  split
  ·rename_i hp
   rw [ih _ (pix_lt' hp), h]; rfl
  ·exact h i
theorem parH_none (h : ∀ j, hideB d w s lg j = false) (i : Nat) : parH d w s lg i = false := by
 unfold parH
 split
 ·exact hid_none h _
 ·rfl
end
def eS3 : List Int := [0, 130, 0, 0, 0, 0, 0, 0, 0, 10, 0, 0, 0, 0, 1, 1, 0, 0, 0, 0, 0, 0, 0, 0, 0, 0, 0, 0, 0, 0, 0, 0, 0]
theorem e_i1 : innC eDoc 1 300 100 0 = (280, 0) := (inn_k (e_op e_doc (by kernel_rfl) (by kernel_rfl) (by kernel_rfl))).trans (by kernel_rfl)
theorem e_i2 : innC eDoc 2 300 100 0 = (130, 0) := (inn_k (e_op e_doc (by kernel_rfl) (by kernel_rfl) (by kernel_rfl))).trans (by kernel_rfl)
theorem e_i3 : innC eDoc 3 300 100 0 = (0, 25) := (inn_k (e_op e_doc (by kernel_rfl) (by kernel_rfl) (by kernel_rfl))).trans (by kernel_rfl)
theorem e_b3 : boxC eDoc 3 300 100 0 = (1, 280, true, 0) := (box_k (e_op e_doc (by kernel_rfl) (by kernel_rfl) (by kernel_rfl))).trans (by kernel_rfl)
theorem e_b1 : boxC eDoc 1 300 100 0 = (0, 0, false, 0) := (box_k (e_op e_doc (by kernel_rfl) (by kernel_rfl) (by kernel_rfl))).trans (by kernel_rfl)
theorem e_s3 : styC eDoc 3 300 100 0 = (eS3, 0) := (sty_k (e_op e_doc (by kernel_rfl) (by kernel_rfl) (by kernel_rfl))).trans (by kernel_rfl)
theorem e_t3 : styC eDoc 3 320 100 0 = (firstS, 0) := (sty_k (e_op e_doc (by kernel_rfl) (by kernel_rfl) (by kernel_rfl))).trans (by kernel_rfl)
theorem e_out {d : Do} {w s lg : Int} {j : Nat} (h : ¬ j < d.nodes.length) : hideB d w s lg j = false := by
 have e : (nat d.nodes j).id = 0 := by
  unfold nat
  rw [List.getD_eq_getElem?_getD, List.getElem?_eq_none (by omega)]; rfl
 unfold hideB
 rw [e]
 have : opE d 0 w s lg ≠ 0 := by
  unfold opE
  rw [if_neg (fun h => by have := h.2.2; simp [idB] at this)]
  decide
 unfold fndR
 rw [if_pos this]; rfl
theorem e_hide {d : Do} (hd : docB d = true) (hn : d.nodes = eNds) (h1 : iat (fndK d 1 300 100 0).1.st 24 = 0) (h2 : iat (fndK d 2 300 100 0).1.st 24 = 0) (h3 : iat (fndK d 3 300 100 0).1.st 24 = 0) (j : Nat) : hideB d 300 100 0 j = false := by
 have hg : ∀ x : Int, x = 1 ∨ x = 2 ∨ x = 3 → opE d x 300 100 0 = 0 := fun x hx => e_op hd (by kernel_rfl) (by rcases hx with rfl | rfl | rfl <;> rfl) (by rw [hn]; rcases hx with rfl | rfl | rfl <;> kernel_rfl)
 by_cases hj : j < d.nodes.length
 ·have h3' : d.nodes.length = 3 := by rw [hn]; rfl
  have : j = 0 ∨ j = 1 ∨ j = 2 := by omega
  unfold hideB
  rw [hn]
  rcases this with rfl | rfl | rfl
  ·show decide (iat (fndR d 1 300 100 0).1.st 24 = 1) = false
   rw [fnd_k (hg 1 (by simp)), h1]; rfl
  ·show decide (iat (fndR d 2 300 100 0).1.st 24 = 1) = false
   rw [fnd_k (hg 2 (by simp)), h2]; rfl
  ·show decide (iat (fndR d 3 300 100 0).1.st 24 = 1) = false
   rw [fnd_k (hg 3 (by simp)), h3]; rfl
 ·exact e_out hj
theorem e_ck {d : Do} (hd : docB d = true) (hn : d.nodes = eNds) {i : Nat} {x : Int} (hx : x = 1 ∨ x = 2 ∨ x = 3) (hi : (nat eNds i).id = x) (hh : ∀ j, hideB d 300 100 0 j = false) : ckN d 300 100 0 i = if (fndK d x 300 100 0).2 ≠ 0 then (fndK d x 300 100 0).2 else if (fndK d x 300 100 0).1.e ≠ 0 then (fndK d x 300 100 0).1.e else if iat (fndK d x 300 100 0).1.st 21 = 1 ∧ (fndK d x 300 100 0).1.own = false then 21 else 0 := by
 unfold ckN
 rw [parH_none hh, if_neg (by simp), hn, hi, fnd_k (e_op hd (by kernel_rfl) (by rcases hx with rfl | rfl | rfl <;> rfl) (by rw [hn]; rcases hx with rfl | rfl | rfl <;> kernel_rfl)), hh]
 simp only [true_and]
theorem e_c1 : chkC eDoc 300 100 0 = 0 := by
 have hh := e_hide e_doc rfl (by kernel_rfl) (by kernel_rfl) (by kernel_rfl)
 refine chk_none e_doc (by kernel_rfl) fun j hj => ?_
 have h3' : eDoc.nodes.length = 3 := rfl
 have : j = 0 ∨ j = 1 ∨ j = 2 := by omega
 rcases this with rfl | rfl | rfl
 ·exact (e_ck e_doc rfl (x := 1) (by simp) rfl hh).trans (by kernel_rfl)
 ·exact (e_ck e_doc rfl (x := 2) (by simp) rfl hh).trans (by kernel_rfl)
 ·exact (e_ck e_doc rfl (x := 3) (by simp) rfl hh).trans (by kernel_rfl)
theorem e_c2 : chkC eBad 300 100 0 = 21 := by
 have hh := e_hide e_bad rfl (by kernel_rfl) (by kernel_rfl) (by kernel_rfl)
 have e : ckN eBad 300 100 0 2 = 21 := (e_ck e_bad rfl (x := 3) (by simp) rfl hh).trans (by kernel_rfl)
 rw [chk_some (i := 2) (by decide) e_bad (by kernel_rfl) (fun j hj => ?_) (by rw [e]; decide), e]
 have : j = 0 ∨ j = 1 := by omega
 rcases this with rfl | rfl
 ·exact (e_ck e_bad rfl (x := 1) (by simp) rfl hh).trans (by kernel_rfl)
 ·exact (e_ck e_bad rfl (x := 2) (by simp) rfl hh).trans (by kernel_rfl)
end
end Go.Proofs.YtinhjbnljbmbcaaGreat
/- Joined. -/
namespace Go.Proofs.YtinhjbnljbmbcaaGreat
open Go Go.RowKit
set_option linter.unusedSimpArgs false
set_option linter.unusedVariables false
set_option maxHeartbeats 4000000
set_option maxRecDepth 100000
attribute [local go_sem] List.length_map rowAt_n nrow rowAt_t trow rowAt_i irow
attribute [local go_sem] rowAt_e rowAt_tm rowAt_dc rowAt_ru tmrow dcrow rurow
attribute [local go_sem] rowAt_br rowAt_s rowAt_fo rowAt_ve rowAt_g rowAt_k grow krow srow brrow forow dorow verow
attribute [local go_sem] kpE_get kpE_look
theorem few15_w (l : List Nd) (r : List Ru) (t u : Tok) : PCall Tryz.prog (.func 28) [.sl 5 (l.map nrow) t, .sl 4 (r.map rurow) u] (.bool (decide (l.length ≤ 20) && fewRs r)) := by
 refine PCall.le ?_
 refine fn_ Tryz.func28 (by rfl) (by rfl) (rs := [.tmp 4]) (by rfl) (by simp [Tryz.f28]) ?_
 refine sr_ [0, 1] [] [] fun κ ξ hκ hξ => ?_
 simp +decide only [go_sem]
 refine hκ _ _ ?_
 refine sr_ [4] [] [(3, 8)] fun κ ξ hκ hξ => ?_
 simp +decide only [go_sem]
 refine vo_gc ?_
 simp +decide only [go_sem]
 refine gcF (fewr_w _ _) ?_
 simp +decide only [go_sem]
 refine hκ _ _ ?_
 refine rt ?_
 refine retE ?_
 simp +decide only [go_sem, resD, resV]
 all_goals congr 1
 all_goals (rw [Bool.eq_iff_iff]; simp; intro _; omega)
theorem fewd_w (d : Do) : PCall Tryz.prog (.func 10) [.ag (dorow d)] (.bool (fewD d)) := by
 refine PCall.ok fun hok => ?_
 simp only [okAll, D.ok, okRows, and_true, true_and, lim_eq, inR_i64', inR_i32', inR_u8', inR_u16', inR_u64'] at hok
 simp only [dorow, okAll, D.ok, okRows, and_true, true_and, lim_eq, inR_i64'] at hok
 obtain ⟨⟨hn, hnr⟩, ⟨hl, hlr⟩, ⟨hf, hfr⟩, hb, hbr⟩ := hok; rw [List.length_map] at hn hl hf hb
 refine PCall.le ?_
 refine fn_ Tryz.func10 (by rfl) (by rfl) (rs := [.tmp 2]) (by rfl) (by simp [Tryz.f10]) ?_
 refine sr_ [1] [1] [] fun κ ξ hκ hξ => ?_
 simp +decide only [go_sem]
 refine hκ _ _ ?_
 refine sr_ [1, 3] [] [] fun κ ξ hκ hξ => ?_
 simp +decide only [go_sem]
 refine callF (few15_w _ _ _ _) ?_
 simp +decide only [go_sem]
 refine hκ _ _ ?_
 refine sq ?_
 refine sr_ [1, 26] [] [(2, 15), (8, 21)] fun κ ξ hκ hξ => ?_
 simp +decide only [go_sem]
 refine hκ _ _ ?_
 refine cd_ (fun c0 => ?_) (fun c0 => ?_)
 ·try simp only [go_sem] at c0
  refine sr_ [2] [] [] fun κ ξ hκ hξ => ?_
  simp +decide only [go_sem]
  refine hκ _ _ ?_
  refine rt ?_
  refine retE ?_
  simp +decide only [go_sem, resD, resV, c0]
  congr 1
  unfold fewD
  symm
  rw [← Bool.not_eq_true]
  simp only [Bool.and_eq_true, decide_eq_true_eq]
  rintro ⟨⟨⟨⟨⟨⟨a, b⟩, c⟩, c'⟩, _⟩, _⟩, _⟩
  rw [b] at c0
  simp at c0
  omega
 ·try simp only [go_sem] at c0
  refine sk ?_
  refine sq ?_
  refine sr_ [1, 4] [] [] fun κ ξ hκ hξ => ?_
  simp +decide only [go_sem, c0]
  refine hκ _ _ ?_
  refine bl ?_
  refine lp (α := Nat) (fun i => mk [(1, .el [.sl 5 (d.nodes.map nrow) .no, .sl 4 (d.rules.map rurow) .no, .sl 2 (d.fonts.map forow) .no, .sl 3 (d.breaks.map brrow) .no]), (4, .int .i64 i)]) (fun i => []) (fun i => i ≤ d.fonts.length ∧ ∀ j, j < i → fewF (foat d.fonts j) = true) (fun i => d.fonts.length - i) 0 ⟨⟨by omega, by intro j hj; omega⟩, EnvLe.of_eq rfl, .refl _⟩ ?_
  rintro i ⟨hi, hj⟩
  refine sq ?_
  refine sr_ [1, 4, 31] [] [] fun κ ξ hκ hξ => ?_
  simp +decide only [go_sem]
  refine hκ _ _ ?_
  refine cd_ (fun c1 => ?_) (fun c1 => ?_)
  ·try simp only [go_sem] at c1
   refine sk ?_
   refine sq ?_
   refine bl ?_
   refine sr_ [1, 4, 5] [] [] fun κ ξ hκ hξ => ?_
   simp +decide only [go_sem, c1]
   repeat with_reducible refine an_ ?_
   refine callF (few_w _ _ _ _) ?_
   simp +decide only [go_sem]
   refine hκ _ _ ?_
   refine sr_ [1, 4, 41] [] [] fun κ ξ hκ hξ => ?_
   simp +decide only [go_sem]
   refine hκ _ _ ?_
   refine cd_ (fun c2 => ?_) (fun c2 => ?_)
   ·try simp only [go_sem] at c2
    refine sr_ [2] [] [] fun κ ξ hκ hξ => ?_
    simp +decide only [go_sem, c2]
    refine hκ _ _ ?_
    refine rt ?_
    refine retE ?_
    simp +decide only [go_sem, resD, resV, c0, c1, c2]
    congr 1
    unfold fewD
    rw [all_no fo0 (l := d.fonts) (p := fewF) (j := i) (by omega) (by show fewF (foat d.fonts i) = false; unfold fewF; simpa using c2)]
    simp
   ·try simp only [go_sem] at c2
    refine sk ?_
    refine rr_ [1, 4] [] [] fun κ ξ hκ hξ => ?_
    simp +decide only [go_sem, c2]
    refine hκ _ _ ?_
    refine ⟨i + 1, ⟨⟨by omega, ?_⟩, by omega⟩, EnvLe.of_eq (by rw [w64 (by omega)]; rfl), List.nil_sublist _⟩
    intro j h
    rcases Nat.lt_succ_iff_lt_or_eq.1 h with h | rfl
    ·exact hj j h
    ·show fewF _ = true; unfold fewF; simpa using c2
  ·try simp only [go_sem] at c1
   refine ex ?_
   refine sq ?_
   refine sr_ [1, 6] [] [] fun κ ξ hκ hξ => ?_
   simp +decide only [go_sem, c1]
   refine hκ _ _ ?_
   refine bl ?_
   have hfa : ∀ j, j < d.fonts.length → fewF (foat d.fonts j) = true := fun j h => hj j (by omega)
   refine lp (α := Nat) (fun i => mk [(1, .el [.sl 5 (d.nodes.map nrow) .no, .sl 4 (d.rules.map rurow) .no, .sl 2 (d.fonts.map forow) .no, .sl 3 (d.breaks.map brrow) .no]), (6, .int .i64 i)]) (fun i => []) (fun i => i ≤ d.breaks.length ∧ ∀ j, j < i → decide ((brat d.breaks j).keep.length ≤ 30) = true) (fun i => d.breaks.length - i) 0 ⟨⟨by omega, by intro j hj; omega⟩, EnvLe.of_eq rfl, .refl _⟩ ?_
   rintro k ⟨hk, hjk⟩
   refine sq ?_
   refine sr_ [1, 6, 46] [] [] fun κ ξ hκ hξ => ?_
   simp +decide only [go_sem]
   refine hκ _ _ ?_
   refine cd_ (fun c3 => ?_) (fun c3 => ?_)
   ·try simp only [go_sem] at c3
    refine sk ?_
    refine sq ?_
    refine bl ?_
    refine sr_ [1, 6, 56] [] [] fun κ ξ hκ hξ => ?_
    simp +decide only [go_sem, c3]
    repeat with_reducible refine an_ ?_
    refine hκ _ _ ?_
    refine cd_ (fun c4 => ?_) (fun c4 => ?_)
    ·try simp only [go_sem] at c4
     refine sr_ [2] [] [] fun κ ξ hκ hξ => ?_
     simp +decide only [go_sem, c4]
     refine hκ _ _ ?_
     refine rt ?_
     refine retE ?_
     simp +decide only [go_sem, resD, resV, c0, c1, c3, c4]
     congr 1
     unfold fewD
     rw [all_no br0 (l := d.breaks) (p := fun b => decide (b.keep.length ≤ 30)) (j := k) (by omega) (by rw [decide_eq_false_iff_not]; show ¬ (brat d.breaks k).keep.length ≤ 30; omega)]
     simp
    ·try simp only [go_sem] at c4
     refine sk ?_
     refine rr_ [1, 6] [] [] fun κ ξ hκ hξ => ?_
     simp +decide only [go_sem, c4]
     refine hκ _ _ ?_
     refine ⟨k + 1, ⟨⟨by omega, ?_⟩, by omega⟩, EnvLe.of_eq (by rw [w64 (by omega)]; rfl), List.nil_sublist _⟩
     intro j h
     rcases Nat.lt_succ_iff_lt_or_eq.1 h with h | rfl
     ·exact hjk j h
     ·rw [decide_eq_true_eq]; omega
   ·try simp only [go_sem] at c3
    refine ex ?_
    refine sq ?_
    refine sr_ [1, 7] [] [] fun κ ξ hκ hξ => ?_
    simp +decide only [go_sem, c3]
    refine hκ _ _ ?_
    refine bl ?_
    have hba : ∀ j, j < d.breaks.length → decide ((brat d.breaks j).keep.length ≤ 30) = true := fun j h => hjk j (by omega)
    refine lp (α := Nat) (fun i => mk [(1, .el [.sl 5 (d.nodes.map nrow) .no, .sl 4 (d.rules.map rurow) .no, .sl 2 (d.fonts.map forow) .no, .sl 3 (d.breaks.map brrow) .no]), (7, .int .i64 i)]) (fun i => []) (fun i => i ≤ d.nodes.length ∧ ∀ j, j < i → decide ((nat d.nodes j).txt.length ≤ 200) = true) (fun i => d.nodes.length - i) 0 ⟨⟨by omega, by intro j hj; omega⟩, EnvLe.of_eq rfl, .refl _⟩ ?_
    rintro m ⟨hm, hjm⟩
    refine sq ?_
    refine sr_ [1, 7, 61] [] [] fun κ ξ hκ hξ => ?_
    simp +decide only [go_sem]
    refine hκ _ _ ?_
    refine cd_ (fun c5 => ?_) (fun c5 => ?_)
    ·try simp only [go_sem] at c5
     refine sk ?_
     refine sq ?_
     refine bl ?_
     refine sr_ [1, 7, 71] [] [] fun κ ξ hκ hξ => ?_
     simp +decide only [go_sem, c5]
     repeat with_reducible refine an_ ?_
     refine hκ _ _ ?_
     refine cd_ (fun c6 => ?_) (fun c6 => ?_)
     ·try simp only [go_sem] at c6
      refine sr_ [2] [] [] fun κ ξ hκ hξ => ?_
      simp +decide only [go_sem, c6]
      refine hκ _ _ ?_
      refine rt ?_
      refine retE ?_
      simp +decide only [go_sem, resD, resV, c0, c1, c3, c5, c6]
      congr 1
      unfold fewD
      rw [all_no nd0 (l := d.nodes) (p := fun n => decide (n.txt.length ≤ 200)) (j := m) (by omega) (by rw [decide_eq_false_iff_not]; show ¬ (nat d.nodes m).txt.length ≤ 200; omega)]
      simp
     ·try simp only [go_sem] at c6
      refine sk ?_
      refine rr_ [1, 7] [] [] fun κ ξ hκ hξ => ?_
      simp +decide only [go_sem, c6]
      refine hκ _ _ ?_
      refine ⟨m + 1, ⟨⟨by omega, ?_⟩, by omega⟩, EnvLe.of_eq (by rw [w64 (by omega)]; rfl), List.nil_sublist _⟩
      intro j h
      rcases Nat.lt_succ_iff_lt_or_eq.1 h with h | rfl
      ·exact hjm j h
      ·rw [decide_eq_true_eq]; omega
    ·try simp only [go_sem] at c5
     refine ex ?_
     refine sr_ [2] [] [] fun κ ξ hκ hξ => ?_
     simp +decide only [go_sem, c5]
     refine hκ _ _ ?_
     refine rt ?_
     refine retE ?_
     simp +decide only [go_sem, resD, resV, c0, c1, c3, c5]
     congr 1
     unfold fewD
     rw [decide_eq_true c0.1.1.1, c0.1.1.2, decide_eq_true (show d.fonts.length ≤ 10 by omega), decide_eq_true (show d.breaks.length ≤ 6 by omega), (all_at fo0).2 hfa, (all_at br0).2 hba, (all_at nd0).2 fun j h => hjm j (by omega)]
     rfl
end Go.Proofs.YtinhjbnljbmbcaaGreat
/- Documents are the same as themselves. Printed by a tool of our own. -/
namespace Go.Proofs.YtinhjbnljbmbcaaGreat
open Go Go.RowKit
set_option linter.unusedSimpArgs false
set_option linter.unusedVariables false
set_option maxHeartbeats 4000000
set_option maxRecDepth 100000
attribute [local go_sem] List.length_map rowAt_n nrow rowAt_t trow rowAt_i irow
attribute [local go_sem] rowAt_e rowAt_tm rowAt_dc rowAt_ru tmrow dcrow rurow
attribute [local go_sem] rowAt_br rowAt_s rowAt_fo rowAt_ve rowAt_g rowAt_k grow krow srow brrow forow dorow verow
attribute [local go_sem] kpE_get kpE_look
end Go.Proofs.YtinhjbnljbmbcaaGreat
/- Joined. -/
namespace Go.Proofs.YtinhjbnljbmbcaaGreat
open Go Go.RowKit
set_option linter.unusedSimpArgs false
set_option linter.unusedVariables false
set_option maxHeartbeats 4000000
set_option maxRecDepth 100000
section
attribute [local go_sem] List.length_map rowAt_n nrow rowAt_t trow rowAt_i irow
attribute [local go_sem] rowAt_e rowAt_tm rowAt_dc rowAt_ru tmrow dcrow rurow
attribute [local go_sem] rowAt_br rowAt_s rowAt_fo rowAt_ve rowAt_g rowAt_k grow krow srow brrow forow dorow verow
attribute [local go_sem] iD_all iD_len rw2_0 rw2_1 rw1_0 Int.toNat_one
attribute [local go_sem] pl_d33 pl_d34 pl_d35 pl_d36 pl_d37 pl_d38 pl_d39 pl_t33 pl_t34 pl_t35 pl_t36 pl_t37 pl_t38 pl_t39 pl_dlt pl_ge pl_len pl_all iD_len iD_all plR plT List.append_assoc firstS_len Nat.zero_add Int.reduceToNat
attribute [local go_sem] rwz rws1 rws2
theorem vlu_w (p o n : Int) : PCall Tryz.prog (.func 59) [.int .i64 p, .int .i64 o, .int .i64 n] (.ag [.int .i64 p, .int .i64 o, .int .i64 n, .sl 3 [] .no]) := by
 refine PCall.le ?_
 refine fn_ Tryz.func59 (by rfl) (by rfl) (rs := [.cell 6 109]) (by rfl) (by simp [Tryz.f59]) ?_
 refine sr_ [0, 1, 2, 6] [] [] fun κ ξ hκ hξ => ?_
 simp +decide only [go_sem]
 intro b6 hb6
 refine hκ _ _ ?_
 refine sr_ [6] [] [] fun κ ξ hκ hξ => ?_
 simp +decide only [go_sem, hb6]
 refine hκ _ _ ?_
 refine rt ?_
 refine retL ?_
 simp +decide only [go_sem, resD, resV, hb6]
 exact DLe.ag ⟨DLe.refl _, DLe.refl _, DLe.refl _, DLe.nil _ _ _, trivial⟩
end
section
attribute [local go_sem] List.length_map rowAt_n nrow rowAt_t trow rowAt_i irow
attribute [local go_sem] rowAt_e rowAt_tm rowAt_dc rowAt_ru tmrow dcrow rurow
attribute [local go_sem] rowAt_br rowAt_s rowAt_fo rowAt_ve rowAt_g rowAt_k grow krow srow brrow forow dorow verow
attribute [local go_sem] iD_all iD_len rw2_0 rw2_1 rw1_0 Int.toNat_one
attribute [local go_sem] pl_d33 pl_d34 pl_d35 pl_d36 pl_d37 pl_d38 pl_d39 pl_t33 pl_t34 pl_t35 pl_t36 pl_t37 pl_t38 pl_t39 pl_dlt pl_ge pl_len pl_all iD_len iD_all plR plT List.append_assoc firstS_len Nat.zero_add Int.reduceToNat
attribute [local go_sem] rwz rws1 rws2
theorem exa_w  : PCall Tryz.prog (.func 27) [] (.tup [.ag (dorow eDoc), .ag (dorow eBad)]) := by
 refine PCall.le ?_
 refine fn_ Tryz.func27 (by rfl) (by rfl) (rs := [.cell 0 27, .cell 1 27]) (by rfl) (by simp [Tryz.f27]) ?_
 refine sr_ [0, 1] [] [] fun κ ξ hκ hξ => ?_
 simp +decide only [go_sem]
 intro b0 hb0
 intro b1 hb1
 refine hκ _ _ ?_
 refine srz_ [(2, [])] [0, 1, 2] [] [] fun κ ξ hκ hξ => ?_
 simp +decide only [go_sem, hb0, hb1]
 refine callF (vlu_w _ _ _) ?_
 simp +decide only [go_sem, hb0, hb1]
 refine callF (vlu_w _ _ _) ?_
 simp +decide only [go_sem, hb0, hb1]
 refine callF (vlu_w _ _ _) ?_
 simp +decide only [go_sem, hb0, hb1]
 refine callF (vlu_w _ _ _) ?_
 simp +decide only [go_sem, hb0, hb1]
 refine callF (vlu_w _ _ _) ?_
 simp +decide only [go_sem, hb0, hb1]
 intro b2 hb2
 refine hκ _ _ ?_
 refine sr_ [0, 1, 2, 3] [] [] fun κ ξ hκ hξ => ?_
 simp +decide only [go_sem, hb0, hb1, hb2]
 intro b3 hb3
 refine hκ _ _ ?_
 refine sr_ [0, 1, 2, 3] [] [] fun κ ξ hκ hξ => ?_
 simp +decide only [go_sem, hb0, hb1, hb2, hb3]
 refine napp_fullT (rows := []) (n := 0) rfl rfl rfl (by simp +decide only [go_sem, Option.isSome_some]) tf117 tf118 tf561 (by refine ⟨⟨rfl, by decide, by decide⟩, by simp +decide only [go_sem], ?_⟩; simp [capB]) (fun h => by cases h) ?_; intro b40 c40 hb40
 simp +decide only [go_sem, hb0, hb1, hb2, hb3]
 refine callF (vlu_w _ _ _) ?_
 simp +decide only [go_sem, hb0, hb1, hb2, hb3]
 refine napp_growN (o := some (b40, c40)) (ρ := [(b3, _), (b1, _), (b0, _)]) (fun h => by cases h) (fun b c h => by cases h; exact hb40) rfl rfl rfl (by simp +decide only [go_sem, Option.isSome_some]) tf117 tf118 tf561 (by refine ⟨⟨rfl, by decide, by decide⟩, by simp +decide only [go_sem], by simp, ?_⟩; simp [capB]) ?_; intro b47 c47 hb47
 simp only [Store.keys, List.map_cons, List.map_nil, List.mem_cons, List.not_mem_nil, or_false, not_or] at hb47
 simp only [apS, apD, List.cons_append, List.nil_append]
 have hc47 : ¬ b3 = b47 := fun e => hb47.1 e.symm
 have hc471 : ¬ b1 = b47 := fun e => hb47.2.1 e.symm
 have hc470 : ¬ b0 = b47 := fun e => hb47.2.2 e.symm
 simp +decide only [go_sem, hb0, hb1, hb2, hb3, hb47, hc47]
 refine hκ _ _ ?_
 refine sq ?_
 refine rgt2 [0, 1] [] [] [] [0] (.br 1 [2, 3] .fin 2 [1, 3] .fin) (by kernel_rfl) (by kernel_rfl) (Pk.cons rfl (Pk.nil)) ?_; intro κ ξ hκ hξ
 simp +decide only [go_sem, hb0, hb1, hb2, hb3, hb47]
 repeat with_reducible refine And.intro (by first | assumption | omega | (simp; done) | (simp; omega) | (intro hg; simp +decide only [go_sem, hg]; done) | (intro hg; simp +decide only [go_sem, hg]; omega)) ?_
 refine SET_br (Pk.cons rfl (Pk.cons rfl (Pk.cons rfl (Pk.nil)))) (Pk.cons rfl (Pk.cons rfl (Pk.cons rfl (Pk.nil)))) ?_ ?_
 ·simp +decide only [go_sem, hb0, hb1, hb2, hb3, hb47, hc47, hc471, hc470]
  repeat with_reducible refine And.intro (by first | assumption | omega | (simp; done) | (simp; omega) | (intro hg; simp +decide only [go_sem, hg]; done) | (intro hg; simp +decide only [go_sem, hg]; omega)) ?_
  refine SET_fin ?_
  simp +decide only [go_sem, hb0, hb1, hb2, hb3, hb47]
  repeat with_reducible refine And.intro (by first | assumption | omega | (simp; done) | (simp; omega) | (intro hg; simp +decide only [go_sem, hg]; done) | (intro hg; simp +decide only [go_sem, hg]; omega)) ?_
  refine hκ _ _ ?_
  refine rt ?_
  refine retL ?_
  simp +decide only [go_sem, resD, resV, hb0, hb1, hb2, hb3, hb47, hc47, hc471, hc470]
  have br : DsLe (brrow ⟨1, 1, []⟩) [.int .i64 1, .int .i64 1, .sl 0 [] .nil] := ⟨DLe.refl _, DLe.refl _, DLe.nil _ _ _, trivial⟩
  exact DLe.tup ⟨DLe.ag ⟨DLe.tok _ _ _, DLe.rows ⟨⟨DLe.refl _, DLe.tok _ _ _, DLe.nil _ _ _, DLe.tok _ _ _, trivial⟩, ⟨DLe.refl _, DLe.tok _ _ _, DLe.nil _ _ _, DLe.tok _ _ _, trivial⟩, ⟨DLe.refl _, DLe.tok _ _ _, DLe.tok _ _ _, DLe.tok _ _ _, trivial⟩, trivial⟩, DLe.rows ⟨⟨DLe.nil _ _ _, DLe.nil _ _ _, trivial⟩, trivial⟩, DLe.rows ⟨br, br, br, br, trivial⟩, trivial⟩, DLe.ag ⟨DLe.tok _ _ _, DLe.rows ⟨⟨DLe.refl _, DLe.tok _ _ _, DLe.nil _ _ _, DLe.tok _ _ _, trivial⟩, ⟨DLe.refl _, DLe.tok _ _ _, DLe.nil _ _ _, DLe.tok _ _ _, trivial⟩, ⟨DLe.refl _, DLe.tok _ _ _, DLe.tok _ _ _, DLe.tok _ _ _, trivial⟩, ⟨DLe.refl _, DLe.tok _ _ _, DLe.nil _ _ _, DLe.tok _ _ _, trivial⟩, trivial⟩, DLe.rows ⟨⟨DLe.nil _ _ _, DLe.nil _ _ _, trivial⟩, trivial⟩, DLe.rows ⟨br, br, br, br, trivial⟩, trivial⟩, trivial⟩
 ·simp +decide only [go_sem, hb0, hb1, hb2, hb3, hb47, hc47, hc471, hc470]
  repeat with_reducible refine And.intro (by first | assumption | omega | (simp; done) | (simp; omega) | (intro hg; simp +decide only [go_sem, hg]; done) | (intro hg; simp +decide only [go_sem, hg]; omega)) ?_
  refine SET_fin ?_
  simp +decide only [go_sem, hb0, hb1, hb2, hb3, hb47]
  repeat with_reducible refine And.intro (by first | assumption | omega | (simp; done) | (simp; omega) | (intro hg; simp +decide only [go_sem, hg]; done) | (intro hg; simp +decide only [go_sem, hg]; omega)) ?_
  refine hκ _ _ ?_
  refine rt ?_
  refine retL ?_
  simp +decide only [go_sem, resD, resV, hb0, hb1, hb2, hb3, hb47, hc47, hc471, hc470]
  have br : DsLe (brrow ⟨1, 1, []⟩) [.int .i64 1, .int .i64 1, .sl 0 [] .nil] := ⟨DLe.refl _, DLe.refl _, DLe.nil _ _ _, trivial⟩
  exact DLe.tup ⟨DLe.ag ⟨DLe.tok _ _ _, DLe.rows ⟨⟨DLe.refl _, DLe.tok _ _ _, DLe.nil _ _ _, DLe.tok _ _ _, trivial⟩, ⟨DLe.refl _, DLe.tok _ _ _, DLe.nil _ _ _, DLe.tok _ _ _, trivial⟩, ⟨DLe.refl _, DLe.tok _ _ _, DLe.tok _ _ _, DLe.tok _ _ _, trivial⟩, trivial⟩, DLe.rows ⟨⟨DLe.nil _ _ _, DLe.nil _ _ _, trivial⟩, trivial⟩, DLe.rows ⟨br, br, br, br, trivial⟩, trivial⟩, DLe.ag ⟨DLe.tok _ _ _, DLe.rows ⟨⟨DLe.refl _, DLe.tok _ _ _, DLe.nil _ _ _, DLe.tok _ _ _, trivial⟩, ⟨DLe.refl _, DLe.tok _ _ _, DLe.nil _ _ _, DLe.tok _ _ _, trivial⟩, ⟨DLe.refl _, DLe.tok _ _ _, DLe.tok _ _ _, DLe.tok _ _ _, trivial⟩, ⟨DLe.refl _, DLe.tok _ _ _, DLe.nil _ _ _, DLe.tok _ _ _, trivial⟩, trivial⟩, DLe.rows ⟨⟨DLe.nil _ _ _, DLe.nil _ _ _, trivial⟩, trivial⟩, DLe.rows ⟨br, br, br, br, trivial⟩, trivial⟩, trivial⟩
end
section
theorem hi1 : PCall Tryz.prog (.func 15) [.ag (dorow eDoc), .int .i64 1, .ag [.int .i64 300, .int .i64 100, .int .i64 0]] (.tup [.int .i64 280, .int .i64 0]) := by have h := inr_w eDoc 1 300 100 0; rw [e_i1] at h; exact h
theorem hi2 : PCall Tryz.prog (.func 15) [.ag (dorow eDoc), .int .i64 2, .ag [.int .i64 300, .int .i64 100, .int .i64 0]] (.tup [.int .i64 130, .int .i64 0]) := by have h := inr_w eDoc 2 300 100 0; rw [e_i2] at h; exact h
theorem hi3 : PCall Tryz.prog (.func 15) [.ag (dorow eDoc), .int .i64 3, .ag [.int .i64 300, .int .i64 100, .int .i64 0]] (.tup [.int .i64 0, .int .i64 25]) := by have h := inr_w eDoc 3 300 100 0; rw [e_i3] at h; exact h
theorem hx3 : PCall Tryz.prog (.func 17) [.ag (dorow eDoc), .int .i64 3, .ag [.int .i64 300, .int .i64 100, .int .i64 0]] (.tup [.int .i64 1, .int .i64 280, .bool true, .int .i64 0]) := by have h := box_w eDoc 3 300 100 0; rw [e_b3] at h; exact h
theorem hx1 : PCall Tryz.prog (.func 17) [.ag (dorow eDoc), .int .i64 1, .ag [.int .i64 300, .int .i64 100, .int .i64 0]] (.tup [.int .i64 0, .int .i64 0, .bool false, .int .i64 0]) := by have h := box_w eDoc 1 300 100 0; rw [e_b1] at h; exact h
theorem hs3 : PCall Tryz.prog (.func 11) [.ag (dorow eDoc), .int .i64 3, .ag [.int .i64 300, .int .i64 100, .int .i64 0]] (.tup [.ag (eS3.map iD), .int .i64 0]) := by have h := cst_w eDoc 3 300 100 0; rw [e_s3] at h; exact h
theorem ht3 : PCall Tryz.prog (.func 11) [.ag (dorow eDoc), .int .i64 3, .ag [.int .i64 320, .int .i64 100, .int .i64 0]] (.tup [.ag (firstS.map iD), .int .i64 0]) := by have h := cst_w eDoc 3 320 100 0; rw [e_t3] at h; exact h
theorem hc1 : PCall Tryz.prog (.func 19) [.ag (dorow eDoc), .ag [.int .i64 300, .int .i64 100, .int .i64 0]] (.int .i64 0) := by have h := cck_w eDoc 300 100 0; rw [e_c1] at h; exact h
theorem hc2 : PCall Tryz.prog (.func 19) [.ag (dorow eBad), .ag [.int .i64 300, .int .i64 100, .int .i64 0]] (.int .i64 21) := by have h := cck_w eBad 300 100 0; rw [e_c2] at h; exact h
theorem hv1 : PCall Tryz.prog (.func 13) [.ag (dorow eDoc)] (.bool true) := by have h := cov_w eDoc; rw [e_doc] at h; exact h
theorem hv0 : PCall Tryz.prog (.func 13) [.ag [.sl 0 [] .nil, .sl 0 [] .nil, .sl 0 [] .nil, .sl 0 [] .nil]] (.bool false) := by
 have h := cov_w do0
 rw [e_nil] at h
 exact h.args ⟨DLe.ag ⟨DLe.nil _ _ _, DLe.nil _ _ _, DLe.nil _ _ _, DLe.nil _ _ _, trivial⟩, trivial⟩
theorem eS3_len : eS3.length = 33 := by simp only [eS3, List.length_cons, List.length_nil]
theorem eS3_1 : (List.map iD (List.drop 1 eS3)).headD .top = .int .i64 130 := by rfl
theorem eF_1 : (List.map iD (List.drop 1 firstS)).headD .top = .int .i64 0 := by rfl
attribute [local go_sem] List.length_map rowAt_n nrow rowAt_t trow rowAt_i irow
attribute [local go_sem] rowAt_e rowAt_tm rowAt_dc rowAt_ru tmrow dcrow rurow
attribute [local go_sem] rowAt_br rowAt_s rowAt_fo rowAt_ve rowAt_g rowAt_k grow krow srow brrow forow dorow verow
attribute [local go_sem] iD_all iD_len rw2_0 rw2_1 rw1_0 Int.toNat_one
attribute [local go_sem] pl_d33 pl_d34 pl_d35 pl_d36 pl_d37 pl_d38 pl_d39 pl_t33 pl_t34 pl_t35 pl_t36 pl_t37 pl_t38 pl_t39 pl_dlt pl_ge pl_len pl_all iD_len iD_all plR plT List.append_assoc firstS_len Nat.zero_add Int.reduceToNat
attribute [local go_sem] rwz rws1 rws2
theorem head_w  : PCall Tryz.prog (.func 9) [] (.bool true) := by
 refine PCall.le ?_
 refine fn_ Tryz.func9 (by rfl) (by rfl) (rs := [.tmp 0]) (by rfl) (by simp [Tryz.f9]) ?_
 refine sr_ [] [] [] fun κ ξ hκ hξ => ?_
 simp +decide only [go_sem]
 refine hκ _ _ ?_
 refine srz_ [(1, []), (2, [])] [1, 2] [] [] fun κ ξ hκ hξ => ?_
 simp +decide only [go_sem]
 refine callF (exa_w) ?_
 simp +decide only [go_sem]
 intro b1 hb1
 intro b2 hb2
 simp +decide only [go_sem, hb1, hb2]
 refine hκ _ _ ?_
 refine srz_ [(3, [])] [1, 2, 3] [] [] fun κ ξ hκ hξ => ?_
 simp +decide only [go_sem, hb1, hb2]
 intro b3 hb3
 refine hκ _ _ ?_
 refine srz_ [(4, [])] [1, 2, 3, 4] [] [] fun κ ξ hκ hξ => ?_
 simp +decide only [go_sem, hb1, hb2, hb3]
 intro b4 hb4
 refine hκ _ _ ?_
 refine sr_ [1, 2, 3, 4, 5, 6] [] [] fun κ ξ hκ hξ => ?_
 simp +decide only [go_sem, hb1, hb2, hb3, hb4]
 refine callF (hi1) ?_
 simp +decide only [go_sem, hb1, hb2, hb3, hb4]
 refine hκ _ _ ?_
 refine sr_ [1, 2, 3, 4, 5, 6, 7, 8] [] [] fun κ ξ hκ hξ => ?_
 simp +decide only [go_sem, hb1, hb2, hb3, hb4]
 refine callF (hi2) ?_
 simp +decide only [go_sem, hb1, hb2, hb3, hb4]
 refine hκ _ _ ?_
 refine sr_ [1, 2, 3, 4, 5, 6, 7, 8, 9, 10, 11, 12] [] [] fun κ ξ hκ hξ => ?_
 simp +decide only [go_sem, hb1, hb2, hb3, hb4]
 refine callF (hx3) ?_
 simp +decide only [go_sem, hb1, hb2, hb3, hb4]
 refine hκ _ _ ?_
 refine srz_ [(13, [])] [1, 2, 3, 4, 5, 6, 7, 8, 9, 10, 11, 12, 13, 14] [] [] fun κ ξ hκ hξ => ?_
 simp +decide only [go_sem, hb1, hb2, hb3, hb4]
 refine callF (hs3) ?_
 simp +decide only [go_sem, eS3_len, hb1, hb2, hb3, hb4]
 intro b13 hb13
 refine hκ _ _ ?_
 refine srz_ [(15, [])] [1, 2, 3, 5, 6, 7, 8, 9, 10, 11, 12, 13, 14, 15, 16] [] [] fun κ ξ hκ hξ => ?_
 simp +decide only [go_sem, hb1, hb2, hb3, hb4, hb13]
 refine callF (ht3) ?_
 simp +decide only [go_sem, hb1, hb2, hb3, hb4, hb13]
 intro b15 hb15
 refine hκ _ _ ?_
 refine sr_ [1, 2, 3, 5, 6, 7, 8, 9, 10, 11, 12, 13, 14, 15, 16, 18] [] [] fun κ ξ hκ hξ => ?_
 simp +decide only [go_sem, hb1, hb2, hb3, hb4, hb13, hb15]
 refine callF (hi3) ?_
 simp +decide only [go_sem, hb1, hb2, hb3, hb4, hb13, hb15]
 refine hκ _ _ ?_
 refine sr_ [1, 2, 3, 5, 6, 7, 8, 9, 10, 11, 12, 13, 14, 15, 16, 18, 21, 22] [] [] fun κ ξ hκ hξ => ?_
 simp +decide only [go_sem, hb1, hb2, hb3, hb4, hb13, hb15]
 refine callF (hx1) ?_
 simp +decide only [go_sem, hb1, hb2, hb3, hb4, hb13, hb15]
 refine hκ _ _ ?_
 refine sr_ [1, 2, 3, 5, 7, 9, 10, 11, 13, 15, 21, 23] [] [(2, 78), (6, 82), (10, 86), (14, 90), (18, 94), (22, 98)] fun κ ξ hκ hξ => ?_
 simp +decide only [go_sem, hb1, hb2, hb3, hb4, hb13, hb15]
 refine hκ _ _ ?_
 refine sr_ [1, 2, 3, 23] [] [(1, 103), (5, 107), (9, 111), (13, 115), (17, 119), (20, 122), (24, 126), (29, 131)] fun κ ξ hκ hξ => ?_
 simp +decide only [go_sem, eS3_1, eF_1, hb1, hb2, hb3, hb4, hb13, hb15]
 refine hκ _ _ ?_
 refine sr_ [0] [] [(1, 137), (7, 143), (13, 149), (17, 153)] fun κ ξ hκ hξ => ?_
 simp +decide only [go_sem, hb1, hb2, hb3, hb4, hb13, hb15]
 refine vo_gc ?_
 simp +decide only [go_sem, hb1, hb2, hb3, hb4, hb13, hb15]
 refine gcF (hc1) ?_
 simp +decide only [go_sem, hb1, hb2, hb3, hb4, hb13, hb15]
 refine vo_gc ?_
 simp +decide only [go_sem, hb1, hb2, hb3, hb4, hb13, hb15]
 refine gcF (hc2) ?_
 simp +decide only [go_sem, hb1, hb2, hb3, hb4, hb13, hb15]
 refine vo_gc ?_
 simp +decide only [go_sem, hb1, hb2, hb3, hb4, hb13, hb15]
 refine gcF (hv1) ?_
 simp +decide only [go_sem, hb1, hb2, hb3, hb4, hb13, hb15]
 refine vo_gc ?_
 simp +decide only [go_sem, hb1, hb2, hb3, hb4, hb13, hb15]
 refine gcF (hv0) ?_
 simp +decide only [go_sem, hb1, hb2, hb3, hb4, hb13, hb15]
 refine hκ _ _ ?_
 refine rt ?_
 refine retE ?_
 simp +decide only [go_sem, resD, resV, eS3_len, eS3_1, eF_1, hb1, hb2, hb3, hb4, hb13, hb15]
 
end
section
theorem opB_spec {o n : Int} {k : Nat} (h : opB o n k = true) : (o = 1 ∧ k = 0) ∨ ((o = 2 ∨ o = 3) ∧ k = 0 ∧ -10000 ≤ n ∧ n ≤ 10000) ∨ (o = 4 ∧ k = 0 ∧ 1 ≤ n ∧ n ≤ 8) ∨ (o = 7 ∧ k = 1 ∧ -1000 ≤ n ∧ n ≤ 1000) ∨ (o = 8 ∧ k = 1 ∧ 1 ≤ n ∧ n ≤ 1000) ∨ ((o = 5 ∨ o = 6 ∨ o = 9 ∨ o = 10) ∧ k = 2) := by
 unfold opB at h
 repeat' split at h
 all_goals first | (have := of_decide_eq_true h; omega) | cases h
theorem len_one {l : List Int} (h : l.length = 1) : ∃ a, l = [a] := by
 match l, h with
 | [a], _ => exact ⟨a, rfl⟩
theorem len_two {l : List Int} (h : l.length = 2) : ∃ a b, l = [a, b] := by
 match l, h with
 | [a, b], _ => exact ⟨a, b, rfl⟩
attribute [local go_sem] List.length_map rowAt_n nrow rowAt_t trow rowAt_i irow
attribute [local go_sem] rowAt_e rowAt_tm rowAt_dc rowAt_ru tmrow dcrow rurow
attribute [local go_sem] iD_all iD_len rw2_0 rw2_1 rw1_0 Int.toNat_one
theorem cmp14_w (e : Ex) (l : List Int) (t : Tok) (w s : Int) (vs : List Int) (hvs : vs.length = 8) (hw : 0 ≤ w ∧ w ≤ 1000000) (hs : 0 ≤ s ∧ s ≤ 1000000) (h : opB e.op e.num l.length = true) (hb : ∀ v ∈ l, -1000000000 ≤ v ∧ v ≤ 1000000000) : PCall Tryz.prog (.func 197) [.ag [.int .i64 e.op, .int .i64 e.num, .sl 3 (e.kids.map erow) .no], .sl 1 (l.map irow) t, .int .i64 w, .int .i64 s, .ag (vs.map iD)] (.int .i64 (opV w s vs e.op e.num l)) := by
 refine PCall.le ?_
 refine fn_ Tryz.func197 (by rfl) (by rfl) (rs := [.tmp 10]) (by rfl) (by simp [Tryz.f197]) ?_
 refine sr_ [1, 2, 3, 5, 9] [5, 9] [] fun κ ξ hκ hξ => ?_
 simp +decide only [go_sem]
 refine hκ _ _ ?_
 refine sq ?_
 refine sr_ [1, 2, 3, 5, 9, 12] [] [] fun κ ξ hκ hξ => ?_
 simp +decide only [go_sem]
 refine hκ _ _ ?_
 refine bl ?_
 refine sr_ [1, 2, 3, 5, 9, 12, 13] [] [] fun κ ξ hκ hξ => ?_
 simp +decide only [go_sem]
 refine hκ _ _ ?_
 refine cd_ (fun c0 => ?_) (fun c0 => ?_)
 ·simp only [go_sem] at c0
  skip
  refine sr_ [10] [] [] fun κ ξ hκ hξ => ?_
  simp +decide only [go_sem, c0]
  refine hκ _ _ ?_
  refine rt ?_
  refine retE ?_
  simp +decide only [go_sem, resD, resV, c0]
  all_goals first | rfl | (congr 1; simp [opV, c0, l0, l1]; done) | (simp [opV, c0, l0, l1]; done)
 ·simp only [go_sem] at c0
  refine sr_ [1, 2, 3, 5, 9, 12, 17] [] [] fun κ ξ hκ hξ => ?_
  simp +decide only [go_sem, c0]
  refine hκ _ _ ?_
  refine cd_ (fun c1 => ?_) (fun c1 => ?_)
  ·simp only [go_sem] at c1
   have hsp := opB_spec h
   have hmb := mul_bd (a := e.num) (b := w) (A := 10000) (B := 1000000) (by omega) (by omega)
   have hmw : IntKind.wrap .i64 (e.num * w) = e.num * w := w64 (by omega)
   refine sr_ [10] [] [] fun κ ξ hκ hξ => ?_
   simp +decide only [go_sem, c1, hmw]
   refine callF (rfl_w _ 100 (by decide)) ?_
   simp +decide only [go_sem]
   refine hκ _ _ ?_
   refine rt ?_
   refine retE ?_
   simp +decide only [go_sem, resD, resV, c0, c1, hmw]
   all_goals first | rfl | (congr 1; simp [opV, c1, l0, l1]; done) | (simp [opV, c1, l0, l1]; done)
  ·simp only [go_sem] at c1
   refine sr_ [1, 3, 5, 9, 12, 24] [] [] fun κ ξ hκ hξ => ?_
   simp +decide only [go_sem, c1]
   refine hκ _ _ ?_
   refine cd_ (fun c2 => ?_) (fun c2 => ?_)
   ·simp only [go_sem] at c2
    have hsp := opB_spec h
    have hmb := mul_bd (a := e.num) (b := s) (A := 10000) (B := 1000000) (by omega) (by omega)
    have hmw : IntKind.wrap .i64 (e.num * s) = e.num * s := w64 (by omega)
    refine sr_ [10] [] [] fun κ ξ hκ hξ => ?_
    simp +decide only [go_sem, c2, hmw]
    refine callF (rfl_w _ 100 (by decide)) ?_
    simp +decide only [go_sem]
    refine hκ _ _ ?_
    refine rt ?_
    refine retE ?_
    simp +decide only [go_sem, resD, resV, c0, c1, c2, hmw]
    all_goals first | rfl | (congr 1; simp [opV, c2, l0, l1]; done) | (simp [opV, c2, l0, l1]; done)
   ·simp only [go_sem] at c2
    refine sr_ [1, 5, 9, 12, 31] [] [] fun κ ξ hκ hξ => ?_
    simp +decide only [go_sem, c2]
    refine hκ _ _ ?_
    refine cd_ (fun c3 => ?_) (fun c3 => ?_)
    ·simp only [go_sem] at c3
     have hsp := opB_spec h
     obtain ⟨k, hk⟩ : ∃ k : Nat, e.num - 1 = (k : Int) := ⟨(e.num - 1).toNat, by omega⟩
     have hnw : IntKind.wrap .i64 (k : Int) = k := w64 (by omega)
     have hkl : k < vs.length := by omega
     have hk7 : (k : Int) < 8 := by omega
     have hk0 : (0 : Int) ≤ (k : Int) := by omega
     have hhd := hd_i hkl
     have hzz : 1 ≤ (List.drop k vs).length := by rw [List.length_drop]; omega
     refine sr_ [10] [] [] fun κ ξ hκ hξ => ?_
     simp +decide only [go_sem, c3, hk, hnw, Int.toNat_natCast, Nat.mul_one, hhd, hk0, hzz]
     repeat with_reducible refine an_ ?_
     refine hκ _ _ ?_
     refine rt ?_
     refine retE ?_
     simp +decide only [go_sem, resD, resV, c0, c1, c2, c3, hk, hnw, Int.toNat_natCast, Nat.mul_one, hhd, hk7, hk0, hzz]
     all_goals first | rfl | (congr 1; simp [opV, c3, l0, l1, hk]; done) | (simp [opV, c3, l0, l1, hk]; done)
    ·simp only [go_sem] at c3
     refine sr_ [1, 5, 12, 38] [] [] fun κ ξ hκ hξ => ?_
     simp +decide only [go_sem, c3]
     refine hκ _ _ ?_
     refine cd_ (fun c4 => ?_) (fun c4 => ?_)
     ·simp only [go_sem] at c4
      have hsp := opB_spec h
      obtain ⟨a, rfl⟩ := len_one (l := l) (by omega)
      have ha := hb a (by simp)
      have hmb := mul_bd (a := e.num) (b := a) (A := 1000) (B := 1000000000) (by omega) (by omega)
      have hmw : IntKind.wrap .i64 (e.num * a) = e.num * a := w64 (by omega)
      refine srd_ [10] [] [] [] fun κ ξ hκ hξ => ?_
      simp +decide only [go_sem, c4, hmw, List.map_cons, List.map_nil]
      refine hκ _ _ ?_
      refine rt ?_
      refine retE ?_
      simp +decide only [go_sem, resD, resV, c0, c1, c2, c3, c4, hmw, List.map_cons, List.map_nil]
      all_goals first | rfl | (congr 1; simp [opV, c4, l0, l1]; done) | (simp [opV, c4, l0, l1]; done)
     ·simp only [go_sem] at c4
      refine sr_ [1, 5, 12, 46] [] [] fun κ ξ hκ hξ => ?_
      simp +decide only [go_sem, c4]
      refine hκ _ _ ?_
      refine cd_ (fun c5 => ?_) (fun c5 => ?_)
      ·simp only [go_sem] at c5
       have hsp := opB_spec h
       obtain ⟨a, rfl⟩ := len_one (l := l) (by omega)
       have ha := hb a (by simp)
       
       refine srd_ [10] [] [53] [] fun κ ξ hκ hξ => ?_
       simp +decide only [go_sem, c5, List.map_cons, List.map_nil]
       refine scallF (rfl_w a e.num (by omega)) ?_
       simp +decide only [go_sem]
       refine hκ _ _ ?_
       refine rt ?_
       refine retE ?_
       simp +decide only [go_sem, resD, resV, c0, c1, c2, c3, c4, c5, List.map_cons, List.map_nil]
       all_goals first | rfl | (congr 1; simp [opV, c5, l0, l1]; done) | (simp [opV, c5, l0, l1]; done)
      ·simp only [go_sem] at c5
       refine sr_ [1, 12, 54] [] [] fun κ ξ hκ hξ => ?_
       simp +decide only [go_sem, c5]
       refine hκ _ _ ?_
       refine cd_ (fun c6 => ?_) (fun c6 => ?_)
       ·simp only [go_sem] at c6
        have hsp := opB_spec h
        obtain ⟨a, b, rfl⟩ := len_two (l := l) (by omega)
        have ha := hb a (by simp)
        have hbb := hb b (by simp)
        have hsw : IntKind.wrap .i64 (a + b) = a + b := w64 (by omega)
        refine srd_ [10] [] [] [] fun κ ξ hκ hξ => ?_
        simp +decide only [go_sem, c6, hsw, List.map_cons, List.map_nil]
        refine hκ _ _ ?_
        refine rt ?_
        refine retE ?_
        simp +decide only [go_sem, resD, resV, c0, c1, c2, c3, c4, c5, c6, hsw, List.map_cons, List.map_nil]
        all_goals first | rfl | (congr 1; simp [opV, c6, l0, l1]; done) | (simp [opV, c6, l0, l1]; done)
       ·simp only [go_sem] at c6
        refine sr_ [1, 12, 63] [] [] fun κ ξ hκ hξ => ?_
        simp +decide only [go_sem, c6]
        refine hκ _ _ ?_
        refine cd_ (fun c7 => ?_) (fun c7 => ?_)
        ·simp only [go_sem] at c7
         have hsp := opB_spec h
         obtain ⟨a, b, rfl⟩ := len_two (l := l) (by omega)
         have ha := hb a (by simp)
         have hbb := hb b (by simp)
         have hsw : IntKind.wrap .i64 (a - b) = a - b := w64 (by omega)
         refine srd_ [10] [] [] [] fun κ ξ hκ hξ => ?_
         simp +decide only [go_sem, c7, hsw, List.map_cons, List.map_nil]
         refine hκ _ _ ?_
         refine rt ?_
         refine retE ?_
         simp +decide only [go_sem, resD, resV, c0, c1, c2, c3, c4, c5, c6, c7, hsw, List.map_cons, List.map_nil]
         all_goals first | rfl | (congr 1; simp [opV, c7, l0, l1]; done) | (simp [opV, c7, l0, l1]; done)
        ·simp only [go_sem] at c7
         refine sr_ [1, 72] [] [] fun κ ξ hκ hξ => ?_
         simp +decide only [go_sem, c7]
         refine hκ _ _ ?_
         refine cd_ (fun c8 => ?_) (fun c8 => ?_)
         ·simp only [go_sem] at c8
          have hsp := opB_spec h
          obtain ⟨a, b, rfl⟩ := len_two (l := l) (by omega)
          have ha := hb a (by simp)
          have hbb := hb b (by simp)
          
          refine srd_ [10] [] [] [] fun κ ξ hκ hξ => ?_
          simp +decide only [go_sem, c8, List.map_cons, List.map_nil]
          refine hκ _ _ ?_
          refine rt ?_
          refine retE ?_
          simp +decide only [go_sem, resD, resV, c0, c1, c2, c3, c4, c5, c6, c7, c8, List.map_cons, List.map_nil]
          all_goals first | rfl | (congr 1; simp [opV, c8, l0, l1]; done) | (simp [opV, c8, l0, l1]; done)
         ·simp only [go_sem] at c8
          have hsp := opB_spec h
          obtain ⟨a, b, rfl⟩ := len_two (l := l) (by omega)
          have ha := hb a (by simp)
          have hbb := hb b (by simp)
          have h10 : e.op = 10 := by omega
          refine sk ?_
          refine srd_ [10] [] [] [] fun κ ξ hκ hξ => ?_
          simp +decide only [go_sem, c8, List.map_cons, List.map_nil]
          refine hκ _ _ ?_
          refine rt ?_
          refine retE ?_
          simp +decide only [go_sem, resD, resV, c0, c1, c2, c3, c4, c5, c6, c7, c8, List.map_cons, List.map_nil]
          all_goals first | rfl | (congr 1; simp [opV, h10, l0, l1]; done) | (simp [opV, h10, l0, l1]; done)
end
end Go.Proofs.YtinhjbnljbmbcaaGreat

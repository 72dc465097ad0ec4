/- Own layer, part 10: append, store, make, range over a string, calls: all operations that are not quiet. -/
import Derived.Test.YtgccnkihonmlbaaA9
namespace Go.Proofs.Ytgccnkihonmlbaa
open Go Go.RowKit
set_option linter.unusedSimpArgs false
set_option linter.unusedVariables false

section
variable {P : Program} {w : World} {σ : Store} {K X : D → Store → Prop}

def Mem.ext (M : Mem) (b k : Nat) (vs : List Value) : Mem := fun b' o => if b' = b ∧ k ≤ o ∧ o < k + vs.length then vs[o - k]? else M b' o

theorem fz_none {w : World} {b o : Nat} {vs : List Value} {T : TypeId} (h : w.heap[b]? = some (.cells (List.toArray vs) T (0, 0))) : w.frozen? ⟨b, o, none⟩ = false := by simp [World.frozen?, h]

/-- What append on a slice of whatever kind comes to, where it has to grow. -/
theorem run_append_grow {T e : TypeId} {t1 : TypeId} {g : Bool} {sz by_ : Nat} {z : List D} {ts : Array TypeId} {p : Option Addr} {n m cap : Nat} {xv : Value} {old new : List Value}
    (ht0 : ts[0]? = some T) (hT : sle P T = some (e, g, sz)) (hby : eby P T = some by_) (hz : zc P e = some z) (hzl : z.length = sz) (ht1 : ts[1]? = some t1) (hk : (sle P t1).isSome = true ∨ isStrT P t1 = true)
    (hold : (Builtin.firstCells sz n (.slice p n cap)).run P w.drew = .ok (List.toArray old) w.drew) (hlen : Builtin.lenOf xv = pure m) (hnew : (Builtin.firstCells sz m xv).run P w.drew = .ok (List.toArray new) w.drew)
    (hol : old.length = n * sz) (hnl : new.length = m * sz) (hgt : cap < n + m) (hfit : (n + m) * by_ ≤ capB) (hb0 : 0 < by_) {ty : TypeId} :
    ∃ cap' rest, (Builtin.append_ ts ty #[.slice p n cap, xv]).run P w = .ok (.slice (some ⟨w.heap.size, 0, none⟩) (n + m) cap') (w.drew.alloc (.cells (List.toArray ((old ++ new) ++ rest)) e (0, 0))) ∧
      ((old ++ new) ++ rest).length = cap' * sz ∧ n + m ≤ cap' := by
  obtain ⟨hu, hl⟩ := sle_some hT
  obtain ⟨zv, hz1, hz2, _⟩ := run_zero (P := P) (M := fun _ _ => none) (w := w.drew) hz
  have hzl2 : zv.cells.size = sz := by have := hz2.length; rw [hzl] at this; simpa using this.symm
  have hinfo : ∃ i, P.info? e = some i ∧ i.bytes = by_ := by
    unfold eby at hby
    rw [hu] at hby
    simpa using hby
  obtain ⟨i, hi, hib⟩ := hinfo
  have hsh : ∃ d1, P.underlying t1 = some d1 ∧ ((∃ e', d1 = .slice e') ∨ d1 = .string) := by
    rcases hk with hk | hk
    · obtain ⟨e', he'⟩ := sle_isSome hk
      exact ⟨_, he', .inl ⟨e', rfl⟩⟩
    · exact ⟨_, isStrT_iff hk, .inr rfl⟩
  obtain ⟨d1, hd1, hsh⟩ := hsh
  have hneed : ¬ ((n + m : Nat) : Int) > IntKind.i64.max := by
    have : n + m ≤ capB := Nat.le_trans (Nat.le_mul_of_pos_right _ hb0) hfit
    unfold capB at this
    show ¬ _ > (9223372036854775807 : Int)
    omega
  have hnext : ¬ Builtin.nextslicecap (n + m) cap * by_ > 2 ^ 48 := by
    have := growslice_fits (need := n + m) (old := cap) (bytes := by_) hgt hfit
    omega
  have hbn : i.bytes ≠ 0 := by omega
  have hgt' : ¬ n + m ≤ cap := by omega
  obtain ⟨cap', hcap', hle⟩ : ∃ c, (Question.appendCap (n + m) cap e).cut (w.tape w.drawn (.appendCap (n + m) cap e)) = c ∧ n + m ≤ c := ⟨_, rfl, by simp only [Question.cut]; omega⟩
  refine ⟨cap', (Builtin.zeroCells zv.cells (cap' - (n + m))).toList, ?_, ?_, hle⟩
  · unfold Builtin.append_
    subst hib
    rcases hsh with ⟨e', rfl⟩ | rfl
    all_goals
      simp only [ht0, List.getElem?_toArray, List.getElem?_cons_zero, List.getElem?_cons_succ, ht1, Sem.run_bind, run_underlying' hu, Result.andThen_ok, run_sizeOf' hl, run_underlying' hd1, Sem.run_pure, Bool.false_eq_true, if_false, hlen, Bool.not_false, if_true]
      rw [if_neg hgt']
      simp only [Sem.run_bind, run_typeInfo' hi, Result.andThen_ok, false_or, hbn, and_false, if_false]
      rw [if_neg hnext]
      simp only [Sem.run_bind, run_choose, Question.forced, Bool.false_eq_true, if_false, Result.andThen_ok]
      rw [hcap']
      simp only [run_askRoom, World.drew_eq, Result.andThen_ok, run_typeInfo' hi, hold, hnew, hz1, Sem.run_pure]
      simp only [newRow, Sem.run_bind, run_newObj, Result.andThen_ok, Sem.run_pure]
      have e : List.toArray old ++ List.toArray new ++ Builtin.zeroCells zv.cells (cap' - (n + m)) = List.toArray ((old ++ new) ++ (Builtin.zeroCells zv.cells (cap' - (n + m))).toList) := by apply Array.ext'; simp
      rw [e]
      rfl
  · have : (Builtin.zeroCells zv.cells (cap' - (n + m))).toList.length = (cap' - (n + m)) * sz := by simp [Builtin.zeroCells, hzl2]
    simp only [List.length_append, hol, hnl, this, ← Nat.add_mul]
    congr 1
    omega

theorem run_append_room {T e : TypeId} {t1 : TypeId} {g : Bool} {sz : Nat} {ts : Array TypeId} {b n m cap : Nat} {xv : Value} {old new : List Value} {T' : TypeId}
    (ht0 : ts[0]? = some T) (hT : sle P T = some (e, g, sz)) (ht1 : ts[1]? = some t1) (hk : (sle P t1).isSome = true ∨ isStrT P t1 = true)
    (hlen : Builtin.lenOf xv = pure m) (hnew : (Builtin.firstCells sz m xv).run P w = .ok (List.toArray new) w)
    (hb : w.heap[b]? = some (.cells (List.toArray old) T' (0, 0))) (hol : old.length = cap * sz) (hnl : new.length = m * sz) (hle : n + m ≤ cap) (hone : ∀ x ∈ new, x.oneCell' = true) {ty : TypeId} :
    ∃ w', (Builtin.append_ ts ty #[.slice (some ⟨b, 0, none⟩) n cap, xv]).run P w = .ok (.slice (some ⟨b, 0, none⟩) (n + m) cap) w' ∧ Wr w w' b ∧
      w'.heap[b]? = some (.cells (List.toArray (old.take (n * sz) ++ new ++ old.drop (n * sz + new.length))) T' (0, 0)) := by
  obtain ⟨hu, hl⟩ := sle_some hT
  have hsh : ∃ d1, P.underlying t1 = some d1 ∧ ((∃ e', d1 = .slice e') ∨ d1 = .string) := by
    rcases hk with hk | hk
    · obtain ⟨e', he'⟩ := sle_isSome hk
      exact ⟨_, he', .inl ⟨e', rfl⟩⟩
    · exact ⟨_, isStrT_iff hk, .inr rfl⟩
  obtain ⟨d1, hd1, hsh⟩ := hsh
  have hmul : n * sz + new.length ≤ old.length := by
    rw [hol, hnl, ← Nat.add_mul]
    exact Nat.mul_le_mul_right _ hle
  obtain ⟨w', h1, h2, h3⟩ := run_storeCells (P := P) new w old (n * sz) 0 hb (by omega) hone
  simp only [Nat.add_zero] at h3
  refine ⟨w', ?_, h2, h3⟩
  unfold Builtin.append_
  rcases hsh with ⟨e', rfl⟩ | rfl
  all_goals
    simp only [ht0, List.getElem?_toArray, List.getElem?_cons_zero, List.getElem?_cons_succ, ht1, Sem.run_bind, run_underlying' hu, Result.andThen_ok, run_sizeOf' hl, run_underlying' hd1, Sem.run_pure, Bool.false_eq_true, if_false, hlen, Bool.not_false, if_true]
    rw [if_pos hle]
    simp only [Sem.run_bind, hnew, Result.andThen_ok, addr_add, Nat.zero_add, h1, Sem.run_pure]

variable {M : Mem}

theorem run_append_zero {T e : TypeId} {t1 : TypeId} {g : Bool} {sz : Nat} {ts : Array TypeId} {p : Option Addr} {n cap : Nat} {xv : Value}
    (ht0 : ts[0]? = some T) (hT : sle P T = some (e, g, sz)) (ht1 : ts[1]? = some t1) (hk : (sle P t1).isSome = true ∨ isStrT P t1 = true)
    (hlen : Builtin.lenOf xv = pure 0) (hnew : (Builtin.firstCells sz 0 xv).run P w = .ok (List.toArray []) w) (hle : n ≤ cap) {ty : TypeId} :
    (Builtin.append_ ts ty #[.slice p n cap, xv]).run P w = .ok (.slice p n cap) w := by
  obtain ⟨hu, hl⟩ := sle_some hT
  have hsh : ∃ d1, P.underlying t1 = some d1 ∧ ((∃ e', d1 = .slice e') ∨ d1 = .string) := by
    rcases hk with hk | hk
    · obtain ⟨e', he'⟩ := sle_isSome hk
      exact ⟨_, he', .inl ⟨e', rfl⟩⟩
    · exact ⟨_, isStrT_iff hk, .inr rfl⟩
  obtain ⟨d1, hd1, hsh⟩ := hsh
  unfold Builtin.append_
  rcases hsh with ⟨e', rfl⟩ | rfl
  all_goals
    simp only [ht0, List.getElem?_toArray, List.getElem?_cons_zero, List.getElem?_cons_succ, ht1, Sem.run_bind, run_underlying' hu, Result.andThen_ok, run_sizeOf' hl, run_underlying' hd1, Sem.run_pure, Bool.false_eq_true, if_false, hlen, Bool.not_false, if_true, Nat.add_zero]
    rw [if_pos hle]
    simp only [Sem.run_bind, hnew, Result.andThen_ok]
    cases p <;> rfl

theorem app_new {ts : Array TypeId} {ty : TypeId} {p : Option Addr} {n cap : Nat} {xv : Value} {T e t1 : TypeId} {g : Bool} {sz by_ : Nat} {z : List D} {rows new : List (List D)} (hc : Conc M w σ)
    (ht0 : ts[0]? = some T) (hT : sle P T = some (e, g, sz)) (hB : eby P T = some by_) (hz : zc P e = some z) (hzl : z.length = sz) (ht1 : ts[1]? = some t1) (hk : (sle P t1).isSome = true ∨ isStrT P t1 = true)
    (hold : ∃ vs, (Builtin.firstCells sz n (.slice p n cap)).run P w.drew = .ok (List.toArray vs) w.drew ∧ RAll M rows.flatten vs ∧ vs.length = n * sz)
    (hlen : Builtin.lenOf xv = pure new.length) (hnew : ∃ vs, (Builtin.firstCells sz new.length xv).run P w.drew = .ok (List.toArray vs) w.drew ∧ RAll M new.flatten vs ∧ vs.length = new.length * sz)
    (hr : ∀ r ∈ rows, r.length = sz) (hn : ∀ r ∈ new, r.length = sz) (hrl : rows.length = n) (hgt : cap < n + new.length) (hfit : (n + new.length) * by_ ≤ capB) (hb0 : 0 < by_)
    (σ' : Nat → Box → Store) (hσ1 : ∀ y c x, (c, x) ∈ σ' w.heap.size y → (c = w.heap.size ∧ x = y) ∨ (c, x) ∈ σ) (hσ2 : ∀ y, (σ' w.heap.size y).keys.Nodup)
    {cs : Array Bool} (h : ∀ cap', K (.sl sz (rows ++ new) (.own w.heap.size cap')) (σ' w.heap.size (.tail sz (n + new.length) cap'))) :
    NOut P M w σ (builtin .append ts ty cs #[.slice p n cap, xv]) K X := by
  obtain ⟨ov, ho1, ho2, ho3⟩ := hold
  obtain ⟨nv, hn1, hn2, hn3⟩ := hnew
  obtain ⟨cap', rest, h1, h2, h3⟩ := run_append_grow (w := w) (ty := ty) ht0 hT hB hz hzl ht1 hk ho1 hlen hn1 ho3 hn3 hgt hfit hb0
  obtain ⟨b1, b2, b3, b4, b5, b6⟩ := new_tail (T := e) (n := n + new.length) hc (by simp [ho3, hn3, Nat.add_mul]) h2 h3
  refine NOut.value _ _ (σ' w.heap.size (.tail sz (n + new.length) cap')) _ _ (lift_value h1) (b4 _ fun b hb => ?_) ⟨b2, hσ2 _, fun c x hx => ?_⟩ ?_ (h cap')
  · obtain ⟨⟨c, x⟩, hm, rfl⟩ := List.mem_map.1 hb
    rcases hσ1 _ _ _ hm with ⟨h1, _⟩ | h1
    · exact .inr (Nat.le_of_eq h1.symm)
    · exact .inl (List.mem_map_of_mem (f := Prod.fst) h1)
  · rcases hσ1 _ _ _ hx with ⟨rfl, rfl⟩ | h1
    · exact b1
    · exact b3 _ _ h1
  · simp only [R, List.length_append, TokR]
    refine ⟨_, cap', by rw [hrl], by rw [hrl]; exact h3, ?_, fun _ => ⟨_, 0, rfl, ?_⟩, rfl, rfl⟩
    · rw [hrl]
      have : n + new.length ≤ capB := Nat.le_trans (Nat.le_mul_of_pos_right _ hb0) hfit
      unfold capB at this; unfold lim; omega
    · refine RRows.of_flat (fun r hrr => (List.mem_append.1 hrr).elim (hr r) (hn r)) ?_
      rw [List.flatten_append]
      exact RCells_of _ _ 0 (RAll.append (ho2.mono b6) (hn2.mono b6)) (by simpa using b5)

theorem rows_cells' (hc : Conc M w σ) {x : D} {v : Value} {sz sz1 : Nat} {rows : List (List D)} (hx : R M x v) (hr : rowsOf σ x = some (sz1, rows)) (hr1 : rows = [] ∨ sz1 = sz) :
    Builtin.lenOf v = pure rows.length ∧ (∃ vs, (Builtin.firstCells sz rows.length v).run P w = .ok (List.toArray vs) w ∧ RAll M rows.flatten vs ∧ vs.length = rows.length * sz) ∧ (∀ r ∈ rows, r.length = sz) := by
  obtain ⟨nvs, hlen, hcells, hnr, hnsz⟩ := rows_cells (P := P) hc hx hr
  refine ⟨hlen, ⟨nvs, hcells sz (hr1.imp id Eq.symm), hnr, ?_⟩, fun r hr => ?_⟩
  · have h1 := hnr.length
    rcases hr1 with hr1 | hr1
    · subst hr1; simp at h1; simp [← h1]
    · rw [← h1, flat_length hnsz, hr1]
  · rcases hr1 with hr1 | hr1
    · subst hr1; simp at hr
    · rw [← hr1]; exact hnsz r hr

theorem app_out (hc : Conc M w σ) {ts : Array TypeId} {ty : TypeId} {s x : D} {sv xv : Value} (hs : R M s sv) (hx : R M x xv) (h : napp P σ ts s x K) {cs : Array Bool} :
    NOut P M w σ (builtin .append ts ty cs #[sv, xv]) K X := by
  unfold napp at h
  split at h
  · rename_i e g sz by_ sz0 rows tk sz1 new hT hB hro
    obtain ⟨⟨⟨z, hz, hzl⟩, ⟨t1, ht1, hk⟩, hsz, hb0, hr0, hr1, hcell, hfit⟩, h⟩ := h
    obtain ⟨T, ht0, hT⟩ : ∃ T, ts[0]? = some T ∧ sle P T = some (e, g, sz) := by
      cases h0 : ts[0]? with
      | none => rw [h0] at hT; cases hT
      | some T => rw [h0] at hT; exact ⟨T, rfl, hT⟩
    have hB : eby P T = some by_ := by rw [ht0] at hB; exact hB
    have hcell' : new.flatten.all D.isCell = true := by
      rw [List.all_flatten]; exact hcell
    obtain ⟨hlen, ⟨nv, hn1, hn2, hn3⟩, hnsz⟩ := rows_cells' (P := P) hc hx hro hr1
    obtain ⟨_, hnd, _⟩ := rows_cells' (P := P) hc.drew hx hro hr1
    obtain ⟨_, hod, hosz⟩ := rows_cells' (P := P) (sz := sz) (sz1 := sz0) hc.drew hs rfl hr0
    have hs' := hs
    simp only [R] at hs'
    obtain ⟨p, cap, rfl, hle, hlim, hrow, htok⟩ := hs'
    have hone : ∀ y ∈ nv, y.oneCell' = true := RAll_cell hn2 hcell'
    cases tk with
    | no => exact h.elim
    | own b cap0 =>
      simp only [TokR] at htok
      obtain ⟨rfl, rfl⟩ := htok
      obtain ⟨⟨rfl, hg⟩, h⟩ := h
      have hbm := Store.get_mem hg
      obtain ⟨⟨vs, T', hv1, hv2, hv3⟩, hv4⟩ := hc.box _ _ (Store.mem_of_get hg)
      by_cases hroom : rows.length + new.length ≤ cap
      · obtain ⟨w', h1, h2, h3⟩ := run_append_room (P := P) (w := w) (ty := ty) (n := rows.length) (old := vs.toList) (T' := T') ht0 hT ht1 hk hlen hn1 (by simpa using hv1) (by simpa using hv2) hn3 hroom hone
        have hmul : rows.length * sz0 + nv.length ≤ vs.toList.length := by
          simp only [Array.length_toList, hv2, hn3, ← Nat.add_mul]
          exact Nat.mul_le_mul_right _ hroom
        have htl : (List.take (rows.length * sz0) vs.toList).length = rows.length * sz0 := by
          rw [List.length_take]; exact Nat.min_eq_left (by omega)
        have hMle : Mem.le M (M.ext b (rows.length * sz0) nv) := fun c o x hx => by
          unfold Mem.ext
          split
          · rename_i hh
            obtain ⟨rfl, hh1, _⟩ := hh
            rw [hv4 o hh1] at hx; cases hx
          · exact hx
        have hcellw : ∀ o v, M b o = some v → w'.cell? ⟨b, o, none⟩ = some v := fun o v hov => by
          have ho : o < rows.length * sz0 := by
            rcases Nat.lt_or_ge o (rows.length * sz0) with h | h
            · exact h
            · rw [hv4 o h] at hov; cases hov
          have hold := hc.mem _ _ _ hov
          simp only [World.cell?, hv1] at hold
          simp only [World.cell?, h3]
          simp at hold ⊢
          try rw [List.append_assoc]
          rw [List.getElem?_append_left (by rw [htl]; exact ho), List.getElem?_take_of_lt ho]
          simpa using hold
        obtain ⟨c1, s1⟩ := hc.turn (w' := w') (b := b) (y := .tail sz0 (rows.length + new.length) cap) hbm h2.size h2.os h2.tape h2.output h2.other hcellw
          ⟨⟨_, T', h3, by simp; simp at hmul; omega, hroom⟩, fun o ho => hv4 o (Nat.le_trans (Nat.mul_le_mul_right _ (Nat.le_add_right _ _)) ho)⟩
        have hnewcell : ∀ i v, nv[i]? = some v → w'.cell? ⟨b, rows.length * sz0 + i, none⟩ = some v := fun i v hi => by
          have hil := (List.getElem?_eq_some_iff.1 hi).1
          simp only [World.cell?, h3]
          simp
          try rw [List.append_assoc]
          rw [List.getElem?_append_right (by rw [htl]; omega), htl]
          rw [List.getElem?_append_left (by omega), ← hi]
          congr 1
          omega
        have c2 : Conc (M.ext b (rows.length * sz0) nv) w' (σ.upd b (.tail sz0 (rows.length + new.length) cap)) := by
          refine ⟨fun c o v hx => ?_, c1.nodup, fun c y hy => ?_⟩
          · unfold Mem.ext at hx
            split at hx
            · rename_i hh
              obtain ⟨rfl, hh1, hh2⟩ := hh
              have := hnewcell _ _ hx
              rwa [show rows.length * sz0 + (o - rows.length * sz0) = o from by omega] at this
            · exact c1.mem c o v hx
          · by_cases hcb : c = b
            · subst hcb
              rcases Store.mem_upd hc.nodup hy with ⟨_, rfl, _⟩ | ⟨h5, _⟩
              · refine ⟨⟨_, T', h3, by simp; simp at hmul; omega, hroom⟩, fun o ho => ?_⟩
                unfold Mem.ext
                rw [Nat.add_mul, ← hn3] at ho
                rw [if_neg (by omega)]
                exact hv4 o (by omega)
              · exact absurd rfl h5
            · refine (c1.box c y hy).mono hMle (fun o v hv => ?_) rfl
              unfold Mem.ext at hv
              rw [if_neg (fun h => hcb h.1)] at hv
              exact hv
        refine NOut.value _ w' (σ.upd b (.tail sz0 (rows.length + new.length) cap)) (.sl sz0 (rows ++ new) (.own b cap)) _ (lift_value h1) { s1 with le := hMle, grow := ?_ } c2 ?_ ?_
        · intro c o x hx
          unfold Mem.ext at hx
          split at hx
          · rename_i hh; obtain ⟨rfl, _⟩ := hh; exact .inr (.inr hbm)
          · exact .inl hx
        rotate_left
        · have := h b cap (.inl rfl)
          rwa [Store.ren_same] at this
        · simp only [R, List.length_append, TokR]
          refine ⟨_, cap, rfl, hroom, ?_, fun _ => ⟨b, 0, rfl, ?_⟩, rfl, rfl⟩
          · have : rows.length + new.length ≤ capB := Nat.le_trans (Nat.le_mul_of_pos_right _ hb0) hfit
            unfold capB at this; unfold lim; omega
          · have hnewr : RRows (M.ext b (rows.length * sz0) nv) sz0 new b (0 + rows.length * sz0) := by
              rw [Nat.zero_add]
              refine RRows.of_flat hnsz (RCells_of _ _ _ (hn2.mono hMle) fun i v hi => ?_)
              have hil := (List.getElem?_eq_some_iff.1 hi).1
              unfold Mem.ext
              rw [if_pos ⟨rfl, by omega, by omega⟩, ← hi]
              congr 1
              omega
            by_cases hne : rows = []
            · subst hne
              simpa using hnewr
            · obtain ⟨b', o', he, hrr⟩ := hrow hne
              cases he
              exact (hrr.mono hMle).append hnewr
      · refine app_new (z := z) (rows := rows) (new := new) hc ht0 hT hB hz hzl ht1 hk hod hlen hnd hosz hnsz rfl (by omega) hfit hb0 (fun nb y => σ.ren b nb y) (fun y c x hx => ?_) (fun y => Store.nodup_ren hc.nodup hc.fresh) (fun cap' => h _ cap' (.inr hc.fresh))
        rcases Store.mem_ren hc.nodup hx with ⟨h1, h2, _⟩ | ⟨_, h2⟩
        · exact .inl ⟨h1, h2⟩
        · exact .inr h2
    | nil =>
      simp only [TokR] at htok
      obtain ⟨rfl, rfl⟩ := htok
      have hre : rows = [] := List.eq_nil_of_length_eq_zero (by omega)
      subst hre
      by_cases hne : new = []
      · subst hne
        have hnv : nv = [] := List.eq_nil_of_length_eq_zero (by simpa using hn3)
        subst hnv
        refine NOut.value M w σ _ _ (lift_value (run_append_zero (ty := ty) ht0 hT ht1 hk hlen hn1 (Nat.le_refl _))) (Step.refl _ _ _) hc ?_ (h.1 rfl)
        simp only [R, TokR]
        exact ⟨none, 0, rfl, by simp, by simp, by simp, rfl, rfl⟩
      · refine app_new (z := z) (rows := []) (new := new) hc ht0 hT hB hz hzl ht1 hk hod hlen hnd hosz hnsz rfl (by have := List.length_pos_iff.2 hne; simpa using this) hfit hb0 (fun nb y => (nb, y) :: σ) (fun y c x hx => ?_) (fun y => ?_) (fun cap' => ?_)
        · rcases List.mem_cons.1 hx with hx | hx
          · cases hx; exact .inl ⟨rfl, rfl⟩
          · exact .inr hx
        · simp only [Store.keys, List.map_cons, List.nodup_cons]; exact ⟨hc.fresh, hc.nodup⟩
        · have := h.2 hne w.heap.size cap' hc.fresh
          simpa using this
    | full =>
      simp only [TokR] at htok
      subst htok
      by_cases hne : new = []
      · subst hne
        have hnv : nv = [] := List.eq_nil_of_length_eq_zero (by simpa using hn3)
        subst hnv
        exact NOut.value M w σ _ _ (lift_value (run_append_zero (ty := ty) ht0 hT ht1 hk hlen hn1 (Nat.le_refl _))) (Step.refl _ _ _) hc hs (h.1 rfl)
      · refine app_new (z := z) (rows := rows) (new := new) hc ht0 hT hB hz hzl ht1 hk hod hlen hnd hosz hnsz rfl (by have := List.length_pos_iff.2 hne; omega) hfit hb0 (fun nb y => (nb, y) :: σ) (fun y c x hx => ?_) (fun y => ?_) (fun cap' => ?_)
        · rcases List.mem_cons.1 hx with hx | hx
          · cases hx; exact .inl ⟨rfl, rfl⟩
          · exact .inr hx
        · simp only [Store.keys, List.map_cons, List.nodup_cons]; exact ⟨hc.fresh, hc.nodup⟩
        · exact h.2 hne w.heap.size cap' hc.fresh
  · exact h.elim

/-- append to what is written to: a new block. -/
theorem appM_new {ts : Array TypeId} {ty : TypeId} {p : Option Addr} {n cap : Nat} {xv : Value} {T e t1 : TypeId} {g : Bool} {sz by_ : Nat} {z : List D} {rows new : List (List D)} (hc : Conc M w σ)
    (ht0 : ts[0]? = some T) (hT : sle P T = some (e, g, sz)) (hB : eby P T = some by_) (hz : zc P e = some z) (hzl : z.length = sz) (ht1 : ts[1]? = some t1) (hk : (sle P t1).isSome = true ∨ isStrT P t1 = true)
    (hold : ∃ vs, (Builtin.firstCells sz n (.slice p n cap)).run P w.drew = .ok (List.toArray vs) w.drew ∧ RAll M rows.flatten vs ∧ vs.length = n * sz)
    (hlen : Builtin.lenOf xv = pure new.length) (hnew : ∃ vs, (Builtin.firstCells sz new.length xv).run P w.drew = .ok (List.toArray vs) w.drew ∧ RAll M new.flatten vs ∧ vs.length = new.length * sz)
    (hr : ∀ r ∈ rows, r.length = sz ∧ r.all D.isCell = true) (hn : ∀ r ∈ new, r.length = sz ∧ r.all D.isCell = true) (hrl : rows.length = n) (hgt : cap < n + new.length) (hfit : (n + new.length) * by_ ≤ capB) (hb0 : 0 < by_)
    (σ' : Nat → Box → Store) (hσ1 : ∀ y c x, (c, x) ∈ σ' w.heap.size y → (c = w.heap.size ∧ x = y) ∨ (c, x) ∈ σ) (hσ2 : ∀ y, (σ' w.heap.size y).keys.Nodup)
    {cs : Array Bool} (h : ∀ cap', n + new.length ≤ cap' → K (.arr w.heap.size sz (n + new.length) cap') (σ' w.heap.size (.arr sz (rows ++ new) cap'))) :
    NOut P M w σ (builtin .append ts ty cs #[.slice p n cap, xv]) K X := by
  obtain ⟨ov, ho1, ho2, ho3⟩ := hold
  obtain ⟨nv, hn1, hn2, hn3⟩ := hnew
  obtain ⟨cap', rest, h1, h2, h3⟩ := run_append_grow (w := w) (ty := ty) ht0 hT hB hz hzl ht1 hk ho1 hlen hn1 ho3 hn3 hgt hfit hb0
  have hl : (rows ++ new).length = n + new.length := by rw [List.length_append, hrl]
  obtain ⟨b1, b2, b3⟩ := hc.drew.newBox (o := .cells (List.toArray ((ov ++ nv) ++ rest)) e (0, 0)) (x := .arr sz (rows ++ new) cap')
    ⟨⟨_, e, alloc_heap_new _ _, h2, by rw [hl]; exact h3, by
      rw [hl, Nat.add_mul, ← ho3, ← hn3, List.flatten_append, ← List.length_append, List.take_left]
      exact ho2.append hn2, fun r hrr => (List.mem_append.1 hrr).elim (hr r) (hn r)⟩, hc.drew.mem_none⟩
  refine NOut.value M (w.drew.alloc _) (σ' w.heap.size (.arr sz (rows ++ new) cap')) _ _ (lift_value h1) { (Step.drew M w σ).trans b2 with keys := fun b hb => ?_ } ⟨b1.mem, hσ2 _, fun c x hx => ?_⟩ ?_ (h cap' h3)
  · obtain ⟨⟨c, x⟩, hm, rfl⟩ := List.mem_map.1 hb
    rcases hσ1 _ _ _ hm with ⟨h1, _⟩ | h1
    · exact .inr (Nat.le_of_eq h1.symm)
    · exact .inl (List.mem_map_of_mem (f := Prod.fst) h1)
  · rcases hσ1 _ _ _ hx with ⟨rfl, rfl⟩ | h1
    · exact b1.box _ _ (List.mem_cons_self ..)
    · exact b1.box _ _ (List.mem_cons_of_mem _ h1)
  · simp only [R]

theorem appM_out (hc : Conc M w σ) {ts : Array TypeId} {ty : TypeId} {s x : D} {sv xv : Value} (hs : R M s sv) (hx : R M x xv) (h : nappM P σ ts s x K) {cs : Array Bool} :
    NOut P M w σ (builtin .append ts ty cs #[sv, xv]) K X := by
  unfold nappM at h
  split at h
  · rename_i e g sz by_ sz1 new hT hB hro
    obtain ⟨⟨⟨z, hz, hzl⟩, ⟨t1, ht1, hk⟩, hsz, hb0, hr1, hcell⟩, h⟩ := h
    obtain ⟨T, ht0, hT⟩ : ∃ T, ts[0]? = some T ∧ sle P T = some (e, g, sz) := by
      cases h0 : ts[0]? with
      | none => rw [h0] at hT; cases hT
      | some T => rw [h0] at hT; exact ⟨T, rfl, hT⟩
    have hB : eby P T = some by_ := by rw [ht0] at hB; exact hB
    have hcell' : new.flatten.all D.isCell = true := by
      rw [List.all_flatten]; exact hcell
    obtain ⟨hlen, ⟨nv, hn1, hn2, hn3⟩, hnsz⟩ := rows_cells' (P := P) hc hx hro hr1
    obtain ⟨_, hnd, _⟩ := rows_cells' (P := P) hc.drew hx hro hr1
    have hone : ∀ y ∈ nv, y.oneCell' = true := RAll_cell hn2 hcell'
    have hnew : ∀ r ∈ new, r.length = sz ∧ r.all D.isCell = true := fun r hr => ⟨hnsz r hr, (List.all_eq_true.1 hcell) r hr⟩
    split at h
    · rename_i sz0 rows tk
      obtain ⟨⟨htk, hr0, hrc, hfit⟩, h1, h2⟩ := h
      obtain ⟨_, hod, hosz⟩ := rows_cells' (P := P) (sz := sz) (sz1 := sz0) hc.drew hs rfl hr0
      have hs' := hs
      simp only [R] at hs'
      obtain ⟨p, cap, rfl, hle, hlim, hrow, htok⟩ := hs'
      have hcap : cap = rows.length := by
        rcases htk with rfl | rfl
        · simp only [TokR] at htok
          omega
        · exact htok
      by_cases hne : new = []
      · subst hne
        have hnv : nv = [] := List.eq_nil_of_length_eq_zero (by simpa using hn3)
        subst hnv
        exact NOut.value M w σ _ _ (lift_value (run_append_zero (ty := ty) ht0 hT ht1 hk hlen hn1 hle)) (Step.refl _ _ _) hc hs (h1 rfl)
      · refine appM_new (z := z) (rows := rows) (new := new) hc ht0 hT hB hz hzl ht1 hk hod hlen hnd (fun r hr => ⟨hosz r hr, (List.all_eq_true.1 hrc) r hr⟩) hnew rfl (by have := List.length_pos_iff.2 hne; omega) hfit hb0 (fun nb y => (nb, y) :: σ) (fun y c x hx => ?_) (fun y => ?_) fun cap' hc' => h2 hne _ _ hc.fresh hc'
        · rcases List.mem_cons.1 hx with hx | hx
          · cases hx; exact .inl ⟨rfl, rfl⟩
          · exact .inr hx
        · simp only [Store.keys, List.map_cons, List.nodup_cons]; exact ⟨hc.fresh, hc.nodup⟩
    · rename_i b sz0 n cap
      split at h
      · rename_i sz2 rows cap2 hg
        obtain ⟨⟨rfl, rfl, rfl, hnr, hfit⟩, h1, h2⟩ := h
        obtain ⟨_, hod, hosz⟩ := rows_cells' (P := P) (sz := sz2) (sz1 := sz2) (rows := rows.take n) hc.drew hs (by simp only [rowsOf, hg]; rw [if_pos ⟨trivial, hnr⟩]) (.inr rfl)
        have hbm := Store.get_mem hg
        obtain ⟨⟨vs, T', hv1, hv2, hv3, hv4, hv5⟩, hv6⟩ := hc.box _ _ (Store.mem_of_get hg)
        have hs' := hs
        simp only [R] at hs'
        subst hs'
        have htn : (rows.take n).length = n := by rw [List.length_take]; exact Nat.min_eq_left hnr
        have h5' : ∀ r ∈ rows, r.length = sz2 := fun r hr => (hv5 r hr).1
        by_cases hroom : n + new.length ≤ cap2
        · obtain ⟨w', k1, k2, k3⟩ := run_append_room (P := P) (w := w) (ty := ty) (n := n) (old := vs) (T' := T') ht0 hT ht1 hk hlen hn1 hv1 hv2 hn3 hroom hone
          have hfl : rows.flatten.length = rows.length * sz2 := flat_length h5'
          have hmul : n * sz2 + nv.length ≤ vs.length := by
            rw [hv2, hn3, ← Nat.add_mul]
            exact Nat.mul_le_mul_right _ hroom
          have hnl : n * sz2 ≤ rows.length * sz2 := Nat.mul_le_mul_right _ hnr
          have hrl : rows.length * sz2 ≤ vs.length := by rw [hv2]; exact Nat.mul_le_mul_right _ hv3
          have hlen3 : (rows.take n ++ new ++ rows.drop (n + new.length)).length = n + new.length + (rows.length - (n + new.length)) := by
            simp only [List.length_append, htn, List.length_drop]
          have hbox : BoxR M w' b (.arr sz2 (rows.take n ++ new ++ rows.drop (n + new.length)) cap2) := by
            refine ⟨⟨_, T', k3, by simp only [List.length_append, List.length_take, List.length_drop]; omega, by rw [hlen3]; omega, ?_, fun r hr => ?_⟩, hv6⟩
            · have e1 : vs.take (n * sz2) = (vs.take (rows.length * sz2)).take (n * sz2) := by rw [List.take_take, Nat.min_eq_left hnl]
              have a1 : RAll M (rows.take n).flatten (vs.take (n * sz2)) := by
                rw [flat_take h5', e1]; exact hv4.take _
              have a3 : RAll M (rows.drop (n + new.length)).flatten ((vs.take (rows.length * sz2)).drop ((n + new.length) * sz2)) := by
                have : (rows.drop (n + new.length)).flatten = rows.flatten.drop ((n + new.length) * sz2) := flat_drop h5'
                rw [this]; exact hv4.drop _
              have e3 : List.take ((rows.take n ++ new ++ rows.drop (n + new.length)).length * sz2) (vs.take (n * sz2) ++ nv ++ vs.drop (n * sz2 + nv.length)) = vs.take (n * sz2) ++ nv ++ (vs.take (rows.length * sz2)).drop ((n + new.length) * sz2) := by
                have l1 : (vs.take (n * sz2) ++ nv).length = (n + new.length) * sz2 := by
                  rw [List.length_append, List.length_take, Nat.min_eq_left (by omega), hn3, Nat.add_mul]
                rw [hlen3, Nat.add_mul, ← l1, List.take_length_add_append, l1, hn3, ← Nat.add_mul, List.drop_take, Nat.sub_mul]
              rw [e3, List.flatten_append, List.flatten_append]
              exact (a1.append hn2).append a3
            · rcases List.mem_append.1 hr with hr | hr
              · rcases List.mem_append.1 hr with hr | hr
                · exact hv5 r (List.mem_of_mem_take hr)
                · exact hnew r hr
              · exact hv5 r (List.mem_of_mem_drop hr)
          obtain ⟨c1, s1⟩ := hc.turn (w' := w') (b := b) hbm k2.size k2.os k2.tape k2.output k2.other (fun o v hov => by rw [hv6 o] at hov; cases hov) hbox
          exact NOut.value _ w' _ _ _ (lift_value k1) s1 c1 (by simp only [R]) (h1 hroom)
        · rw [htn] at hod
          refine appM_new (z := z) (rows := rows.take n) (new := new) hc ht0 hT hB hz hzl ht1 hk hod hlen hnd (fun r hr => hv5 r (List.mem_of_mem_take hr)) hnew htn (by omega) hfit hb0 (fun nb y => σ.ren b nb y) (fun y c x hx => ?_) (fun y => Store.nodup_ren hc.nodup hc.fresh) fun cap' hc' => h2 (by omega) _ _ hc.fresh hc'
          rcases Store.mem_ren hc.nodup hx with ⟨h1, h2, _⟩ | ⟨_, h2⟩
          · exact .inl ⟨h1, h2⟩
          · exact .inr h2
      · exact h.elim
    · exact h.elim
  · exact h.elim

end

end Go.Proofs.Ytgccnkihonmlbaa

/- Own layer, part 10: append, store, make, range over a string, calls: all operations that are not quiet. -/
import Derived.Test.YtfjnohmdilmfhaaGreatDoorY00
import Derived.OrdersIn
import Derived.Deep.Quiet
import Derived.RangeFuncLeaves
import Derived.RangeFuncRecord
namespace Go.Proofs.YtfjnohmdilmfhaaGreatDoor
open Go Go.RowKit
set_option linter.unusedSimpArgs false
set_option linter.unusedVariables false
section
variable {P : Program} {w : World} {σ : Store} {K X : D → Store → Prop}
def Mem.ext (M : Mem) (b k : Nat) (vs : List Value) : Mem := fun b' o => if b' = b ∧ k ≤ o ∧ o < k + vs.length then vs[o - k]? else M b' o
/-- What append on a slice of whatever kind comes to, where it has to grow. -/
theorem run_append_grow {T e : TypeId} {t1 : TypeId} {g : Bool} {sz by_ : Nat} {z : List D} {ts : Array TypeId} {p : Option Addr} {n m cap : Nat} {xv : Value} {old new : List Value}
  (ht0 : ts[0]? = some T) (hT : sle P T = some (e, g, sz)) (hby : eby P T = some by_) (hz : zc P e = some z) (hzl : z.length = sz) (ht1 : ts[1]? = some t1) (hk : (sle P t1).isSome = true ∨ isStrT P t1 = true)
  (hold : (Builtin.firstCells sz n (.slice p n cap)).run P w.drew = .ok (List.toArray old) w.drew) (hlen : Builtin.lenOf xv = pure m) (hnew : (Builtin.firstCells sz m xv).run P w.drew = .ok (List.toArray new) w.drew)
  (hol : old.length = n * sz) (hnl : new.length = m * sz) (hgt : cap < n + m) (hfit : (n + m) * by_ ≤ capB) (hb0 : 0 < by_) {ty : TypeId} :
  ∃ cap' rest, (Builtin.append_ ts ty #[.slice p n cap, xv]).run P w = .ok (.slice (some ⟨w.heap.size, 0, none⟩) (n + m) cap') (w.drew.alloc (.cells (List.toArray ((old ++ new) ++ rest)) e (0, 0))) ∧
   ((old ++ new) ++ rest).length = cap' * sz ∧ n + m ≤ cap' := by
 obtain ⟨hu, hl⟩ := sle_some hT
 obtain ⟨zv, hz1, hz2, _⟩ := run_zero (P := P) (M := fun _ _ => none) (w := w.drew) hz
 have hzl2 : zv.cells.size = sz := by have := hz2.length; rw [hzl] at this; simpa using this.symm
 have hinfo : ∃ i, P.info? e = some i ∧ i.bytes = by_ := by
  unfold eby at hby
  rw [hu] at hby
  simpa using hby
 obtain ⟨i, hi, hib⟩ := hinfo
 have hsh : ∃ d1, P.underlying t1 = some d1 ∧ ((∃ e', d1 = .slice e') ∨ d1 = .string) := by
  rcases hk with hk | hk
  ·obtain ⟨e', he'⟩ := sle_isSome hk
   exact ⟨_, he', .inl ⟨e', rfl⟩⟩
  ·exact ⟨_, isStrT_iff hk, .inr rfl⟩
 obtain ⟨d1, hd1, hsh⟩ := hsh
 have hneed : ¬ ((n + m : Nat) : Int) > IntKind.i64.max := by
  have : n + m ≤ capB := Nat.le_trans (Nat.le_mul_of_pos_right _ hb0) hfit
  unfold capB at this
  show ¬ _ > (9223372036854775807 : Int)
  omega
 have hnext : ¬ Builtin.nextslicecap (n + m) cap * by_ > 2 ^ 48 := by
  have := growslice_fits (need := n + m) (old := cap) (bytes := by_) hgt hfit
  omega
 have hbn : i.bytes ≠ 0 := by omega
 have hgt' : ¬ n + m ≤ cap := by omega
 obtain ⟨cap', hcap', hle⟩ : ∃ c, (Question.appendCap (n + m) cap e).cut (w.tape w.drawn (.appendCap (n + m) cap e)) = c ∧ n + m ≤ c := ⟨_, rfl, by simp only [Question.cut]; omega⟩
 refine ⟨cap', (Builtin.zeroCells zv.cells (cap' - (n + m))).toList, ?_, ?_, hle⟩
 ·unfold Builtin.append_
  subst hib
  rcases hsh with ⟨e', rfl⟩ | rfl
  all_goals
   simp only [ht0, List.getElem?_toArray, List.getElem?_cons_zero, List.getElem?_cons_succ, ht1, Sem.run_bind, run_underlying' hu, Result.andThen_ok, run_sizeOf' hl, run_underlying' hd1, Sem.run_pure, Bool.false_eq_true, if_false, hlen, Bool.not_false, if_true]
   rw [if_neg hgt']
   simp only [Sem.run_bind, run_typeInfo' hi, Result.andThen_ok, false_or, hbn, and_false, if_false]
   rw [if_neg hnext]
   simp only [Sem.run_bind, run_choose, Question.forced, Bool.false_eq_true, if_false, Result.andThen_ok]
   rw [hcap']
   simp only [run_askRoom, World.drew_eq, Result.andThen_ok, run_typeInfo' hi, hold, hnew, hz1, Sem.run_pure]
   simp only [newRow, Sem.run_bind, run_newObj, Result.andThen_ok, Sem.run_pure]
   have e : List.toArray old ++ List.toArray new ++ Builtin.zeroCells zv.cells (cap' - (n + m)) = List.toArray ((old ++ new) ++ (Builtin.zeroCells zv.cells (cap' - (n + m))).toList) := by apply Array.ext'; simp
   rw [e]
   rfl
 ·have : (Builtin.zeroCells zv.cells (cap' - (n + m))).toList.length = (cap' - (n + m)) * sz := by simp [Builtin.zeroCells, hzl2]
  simp only [List.length_append, hol, hnl, this, ← Nat.add_mul]
  congr 1
  omega
theorem run_append_room {T e : TypeId} {t1 : TypeId} {g : Bool} {sz : Nat} {ts : Array TypeId} {b n m cap : Nat} {xv : Value} {old new : List Value} {T' : TypeId}
  (ht0 : ts[0]? = some T) (hT : sle P T = some (e, g, sz)) (ht1 : ts[1]? = some t1) (hk : (sle P t1).isSome = true ∨ isStrT P t1 = true)
  (hlen : Builtin.lenOf xv = pure m) (hnew : (Builtin.firstCells sz m xv).run P w = .ok (List.toArray new) w)
  (hb : w.heap[b]? = some (.cells (List.toArray old) T' (0, 0))) (hol : old.length = cap * sz) (hnl : new.length = m * sz) (hle : n + m ≤ cap) (hone : ∀ x ∈ new, x.oneCell' = true) {ty : TypeId} :
  ∃ w', (Builtin.append_ ts ty #[.slice (some ⟨b, 0, none⟩) n cap, xv]).run P w = .ok (.slice (some ⟨b, 0, none⟩) (n + m) cap) w' ∧ Wr w w' b ∧
   w'.heap[b]? = some (.cells (List.toArray (old.take (n * sz) ++ new ++ old.drop (n * sz + new.length))) T' (0, 0)) := by
 obtain ⟨hu, hl⟩ := sle_some hT
 have hsh : ∃ d1, P.underlying t1 = some d1 ∧ ((∃ e', d1 = .slice e') ∨ d1 = .string) := by
  rcases hk with hk | hk
  ·obtain ⟨e', he'⟩ := sle_isSome hk
   exact ⟨_, he', .inl ⟨e', rfl⟩⟩
  ·exact ⟨_, isStrT_iff hk, .inr rfl⟩
 obtain ⟨d1, hd1, hsh⟩ := hsh
 have hmul : n * sz + new.length ≤ old.length := by
  rw [hol, hnl, ← Nat.add_mul]
  exact Nat.mul_le_mul_right _ hle
 obtain ⟨w', h1, h2, h3⟩ := run_storeCells (P := P) new w old (n * sz) 0 hb (by omega) hone
 simp only [Nat.add_zero] at h3
 refine ⟨w', ?_, h2, h3⟩
 unfold Builtin.append_
 rcases hsh with ⟨e', rfl⟩ | rfl
 all_goals
  simp only [ht0, List.getElem?_toArray, List.getElem?_cons_zero, List.getElem?_cons_succ, ht1, Sem.run_bind, run_underlying' hu, Result.andThen_ok, run_sizeOf' hl, run_underlying' hd1, Sem.run_pure, Bool.false_eq_true, if_false, hlen, Bool.not_false, if_true]
  rw [if_pos hle]
  simp only [Sem.run_bind, hnew, Result.andThen_ok, addr_add, Nat.zero_add, h1, Sem.run_pure]
variable {M : Mem}
theorem run_append_zero {T e : TypeId} {t1 : TypeId} {g : Bool} {sz : Nat} {ts : Array TypeId} {p : Option Addr} {n cap : Nat} {xv : Value}
  (ht0 : ts[0]? = some T) (hT : sle P T = some (e, g, sz)) (ht1 : ts[1]? = some t1) (hk : (sle P t1).isSome = true ∨ isStrT P t1 = true)
  (hlen : Builtin.lenOf xv = pure 0) (hnew : (Builtin.firstCells sz 0 xv).run P w = .ok (List.toArray []) w) (hle : n ≤ cap) {ty : TypeId} :
  (Builtin.append_ ts ty #[.slice p n cap, xv]).run P w = .ok (.slice p n cap) w := by
 obtain ⟨hu, hl⟩ := sle_some hT
 have hsh : ∃ d1, P.underlying t1 = some d1 ∧ ((∃ e', d1 = .slice e') ∨ d1 = .string) := by
  rcases hk with hk | hk
  ·obtain ⟨e', he'⟩ := sle_isSome hk
   exact ⟨_, he', .inl ⟨e', rfl⟩⟩
  ·exact ⟨_, isStrT_iff hk, .inr rfl⟩
 obtain ⟨d1, hd1, hsh⟩ := hsh
 unfold Builtin.append_
 rcases hsh with ⟨e', rfl⟩ | rfl
 all_goals
  simp only [ht0, List.getElem?_toArray, List.getElem?_cons_zero, List.getElem?_cons_succ, ht1, Sem.run_bind, run_underlying' hu, Result.andThen_ok, run_sizeOf' hl, run_underlying' hd1, Sem.run_pure, Bool.false_eq_true, if_false, hlen, Bool.not_false, if_true, Nat.add_zero]
  rw [if_pos hle]
  simp only [Sem.run_bind, hnew, Result.andThen_ok]
  cases p <;> rfl
theorem app_new {ts : Array TypeId} {ty : TypeId} {p : Option Addr} {n cap : Nat} {xv : Value} {T e t1 : TypeId} {g : Bool} {sz by_ : Nat} {z : List D} {rows new : List (List D)} (hc : Conc M w σ)
  (ht0 : ts[0]? = some T) (hT : sle P T = some (e, g, sz)) (hB : eby P T = some by_) (hz : zc P e = some z) (hzl : z.length = sz) (ht1 : ts[1]? = some t1) (hk : (sle P t1).isSome = true ∨ isStrT P t1 = true)
  (hold : ∃ vs, (Builtin.firstCells sz n (.slice p n cap)).run P w.drew = .ok (List.toArray vs) w.drew ∧ RAll M rows.flatten vs ∧ vs.length = n * sz)
  (hlen : Builtin.lenOf xv = pure new.length) (hnew : ∃ vs, (Builtin.firstCells sz new.length xv).run P w.drew = .ok (List.toArray vs) w.drew ∧ RAll M new.flatten vs ∧ vs.length = new.length * sz)
  (hr : ∀ r ∈ rows, r.length = sz) (hn : ∀ r ∈ new, r.length = sz) (hrl : rows.length = n) (hgt : cap < n + new.length) (hfit : (n + new.length) * by_ ≤ capB) (hb0 : 0 < by_)
  (σ' : Nat → Box → Store) (hσ1 : ∀ y c x, (c, x) ∈ σ' w.heap.size y → (c = w.heap.size ∧ x = y) ∨ (c, x) ∈ σ) (hσ2 : ∀ y, (σ' w.heap.size y).keys.Nodup)
  {cs : Array Bool} (h : ∀ cap', K (.sl sz (rows ++ new) (.own w.heap.size cap')) (σ' w.heap.size (.tail sz (n + new.length) cap'))) :
  NOut P M w σ (builtin .append ts ty cs #[.slice p n cap, xv]) K X := by
 obtain ⟨ov, ho1, ho2, ho3⟩ := hold
 obtain ⟨nv, hn1, hn2, hn3⟩ := hnew
 obtain ⟨cap', rest, h1, h2, h3⟩ := run_append_grow (w := w) (ty := ty) ht0 hT hB hz hzl ht1 hk ho1 hlen hn1 ho3 hn3 hgt hfit hb0
 obtain ⟨b1, b2, b3, b4, b5, b6⟩ := new_tail (T := e) (n := n + new.length) hc (by simp [ho3, hn3, Nat.add_mul]) h2 h3
 refine NOut.value _ _ (σ' w.heap.size (.tail sz (n + new.length) cap')) _ _ (lift_value h1) (b4 _ fun b hb => ?_) ⟨b2, hσ2 _, fun c x hx => ?_, hc.glob.of (fun b hb _ => alloc_heap_old w.drew _ hb) (fun b hb => by
   obtain ⟨⟨c, x⟩, hm, rfl⟩ := List.mem_map.1 hb
   rcases hσ1 _ _ _ hm with ⟨h1, _⟩ | h1
   · exact .inr (Nat.le_of_eq h1.symm)
   · exact .inl (List.mem_map_of_mem (f := Prod.fst) h1))⟩ ?_ (h cap')
 ·obtain ⟨⟨c, x⟩, hm, rfl⟩ := List.mem_map.1 hb
  rcases hσ1 _ _ _ hm with ⟨h1, _⟩ | h1
  ·exact .inr (Nat.le_of_eq h1.symm)
  ·exact .inl (List.mem_map_of_mem (f := Prod.fst) h1)
 ·rcases hσ1 _ _ _ hx with ⟨rfl, rfl⟩ | h1
  ·exact b1
  ·exact b3 _ _ h1
 ·simp only [R, List.length_append, TokR]
  refine ⟨_, cap', by rw [hrl], by rw [hrl]; exact h3, ?_, fun _ => ⟨_, 0, rfl, ?_⟩, rfl, rfl⟩
  ·rw [hrl]
   have : n + new.length ≤ capB := Nat.le_trans (Nat.le_mul_of_pos_right _ hb0) hfit
   unfold capB at this; unfold lim; omega
  ·refine RRows.of_flat (fun r hrr => (List.mem_append.1 hrr).elim (hr r) (hn r)) ?_
   rw [List.flatten_append]
   exact RCells_of _ _ 0 (RAll.append (ho2.mono b6) (hn2.mono b6)) (by simpa using b5)
theorem rows_cells' (hc : Conc M w σ) {x : D} {v : Value} {sz sz1 : Nat} {rows : List (List D)} (hx : R M x v) (hr : rowsOf σ x = some (sz1, rows)) (hr1 : rows = [] ∨ sz1 = sz) :
  Builtin.lenOf v = pure rows.length ∧ (∃ vs, (Builtin.firstCells sz rows.length v).run P w = .ok (List.toArray vs) w ∧ RAll M rows.flatten vs ∧ vs.length = rows.length * sz) ∧ (∀ r ∈ rows, r.length = sz) := by
 obtain ⟨nvs, hlen, hcells, hnr, hnsz⟩ := rows_cells (P := P) hc hx hr
 refine ⟨hlen, ⟨nvs, hcells sz (hr1.imp id Eq.symm), hnr, ?_⟩, fun r hr => ?_⟩
 ·have h1 := hnr.length
  rcases hr1 with hr1 | hr1
  ·subst hr1; simp at h1; simp [← h1]
  ·rw [← h1, flat_length hnsz, hr1]
 ·rcases hr1 with hr1 | hr1
  ·subst hr1; simp at hr
  ·rw [← hr1]; exact hnsz r hr
theorem app_out (hc : Conc M w σ) {ts : Array TypeId} {ty : TypeId} {s x : D} {sv xv : Value} (hs : R M s sv) (hx : R M x xv) (h : napp P σ ts s x K) {cs : Array Bool} :
  NOut P M w σ (builtin .append ts ty cs #[sv, xv]) K X := by
 unfold napp at h
 split at h
 ·rename_i e g sz by_ sz0 rows tk sz1 new hT hB hro
  obtain ⟨⟨⟨z, hz, hzl⟩, ⟨t1, ht1, hk⟩, hsz, hb0, hr0, hr1, hcell, hfit⟩, h⟩ := h
  obtain ⟨T, ht0, hT⟩ : ∃ T, ts[0]? = some T ∧ sle P T = some (e, g, sz) := by
   cases h0 : ts[0]? with
   | none => rw [h0] at hT; cases hT
   | some T => rw [h0] at hT; exact ⟨T, rfl, hT⟩
  have hB : eby P T = some by_ := by rw [ht0] at hB; exact hB
  have hcell' : new.flatten.all D.isCell = true := by
   rw [List.all_flatten]; exact hcell
  obtain ⟨hlen, ⟨nv, hn1, hn2, hn3⟩, hnsz⟩ := rows_cells' (P := P) hc hx hro hr1
  obtain ⟨_, hnd, _⟩ := rows_cells' (P := P) hc.drew hx hro hr1
  obtain ⟨_, hod, hosz⟩ := rows_cells' (P := P) (sz := sz) (sz1 := sz0) hc.drew hs rfl hr0
  have hs' := hs
  simp only [R] at hs'
  obtain ⟨p, cap, rfl, hle, hlim, hrow, htok⟩ := hs'
  have hone : ∀ y ∈ nv, y.oneCell' = true := RAll_cell hn2 hcell'
  cases tk with
  | no => exact h.elim
  | own b cap0 =>
   simp only [TokR] at htok
   obtain ⟨rfl, rfl⟩ := htok
   obtain ⟨⟨rfl, hg⟩, h⟩ := h
   have hbm := Store.get_mem hg
   obtain ⟨⟨vs, T', hv1, hv2, hv3⟩, hv4⟩ := hc.box _ _ (Store.mem_of_get hg)
   by_cases hroom : rows.length + new.length ≤ cap
   ·obtain ⟨w', h1, h2, h3⟩ := run_append_room (P := P) (w := w) (ty := ty) (n := rows.length) (old := vs.toList) (T' := T') ht0 hT ht1 hk hlen hn1 (by simpa using hv1) (by simpa using hv2) hn3 hroom hone
    have hmul : rows.length * sz0 + nv.length ≤ vs.toList.length := by
     simp only [Array.length_toList, hv2, hn3, ← Nat.add_mul]
     exact Nat.mul_le_mul_right _ hroom
    have htl : (List.take (rows.length * sz0) vs.toList).length = rows.length * sz0 := by
     rw [List.length_take]; exact Nat.min_eq_left (by omega)
    have hMle : Mem.le M (M.ext b (rows.length * sz0) nv) := fun c o x hx => by
     unfold Mem.ext
     split
     ·rename_i hh
      obtain ⟨rfl, hh1, _⟩ := hh
      rw [hv4 o hh1] at hx; cases hx
     ·exact hx
    have hcellw : ∀ o v, M b o = some v → w'.cell? ⟨b, o, none⟩ = some v := fun o v hov => by
     have ho : o < rows.length * sz0 := by
      rcases Nat.lt_or_ge o (rows.length * sz0) with h | h
      ·exact h
      ·rw [hv4 o h] at hov; cases hov
     have hold := hc.mem _ _ _ hov
     simp only [World.cell?, hv1] at hold
     simp only [World.cell?, h3]
     simp at hold ⊢
     try rw [List.append_assoc]
     rw [List.getElem?_append_left (by rw [htl]; exact ho), List.getElem?_take_of_lt ho]
     simpa using hold
    obtain ⟨c1, s1⟩ := hc.turn (w' := w') (b := b) (y := .tail sz0 (rows.length + new.length) cap) hbm h2.size h2.os h2.tape h2.output h2.other hcellw
     ⟨⟨_, T', h3, by simp; simp at hmul; omega, hroom⟩, fun o ho => hv4 o (Nat.le_trans (Nat.mul_le_mul_right _ (Nat.le_add_right _ _)) ho)⟩
    have hnewcell : ∀ i v, nv[i]? = some v → w'.cell? ⟨b, rows.length * sz0 + i, none⟩ = some v := fun i v hi => by
     have hil := (List.getElem?_eq_some_iff.1 hi).1
     simp only [World.cell?, h3]
     simp
     try rw [List.append_assoc]
     rw [List.getElem?_append_right (by rw [htl]; omega), htl]
     rw [List.getElem?_append_left (by omega), ← hi]
     congr 1
     omega
    have c2 : Conc (M.ext b (rows.length * sz0) nv) w' (σ.upd b (.tail sz0 (rows.length + new.length) cap)) := by
     refine ⟨fun c o v hx => ?_, c1.nodup, fun c y hy => ?_, c1.glob⟩
     ·unfold Mem.ext at hx
      split at hx
      ·rename_i hh
       obtain ⟨rfl, hh1, hh2⟩ := hh
       have := hnewcell _ _ hx
       rwa [show rows.length * sz0 + (o - rows.length * sz0) = o from by omega] at this
      ·exact c1.mem c o v hx
     ·by_cases hcb : c = b
      ·subst hcb
       rcases Store.mem_upd hc.nodup hy with ⟨_, rfl, _⟩ | ⟨h5, _⟩
       ·refine ⟨⟨_, T', h3, by simp; simp at hmul; omega, hroom⟩, fun o ho => ?_⟩
        unfold Mem.ext
        rw [Nat.add_mul, ← hn3] at ho
        rw [if_neg (by omega)]
        exact hv4 o (by omega)
       ·exact absurd rfl h5
      ·refine (c1.box c y hy).mono hMle (fun o v hv => ?_) rfl
       unfold Mem.ext at hv
       rw [if_neg (fun h => hcb h.1)] at hv
       exact hv
    refine NOut.value _ w' (σ.upd b (.tail sz0 (rows.length + new.length) cap)) (.sl sz0 (rows ++ new) (.own b cap)) _ (lift_value h1) { s1 with le := hMle, grow := ?_ } c2 ?_ ?_
    ·intro c o x hx
     unfold Mem.ext at hx
     split at hx
     ·rename_i hh; obtain ⟨rfl, _⟩ := hh; exact .inr (.inr hbm)
     ·exact .inl hx
    rotate_left
    ·have := h b cap (.inl rfl)
     rwa [Store.ren_same] at this
    ·simp only [R, List.length_append, TokR]
     refine ⟨_, cap, rfl, hroom, ?_, fun _ => ⟨b, 0, rfl, ?_⟩, rfl, rfl⟩
     ·have : rows.length + new.length ≤ capB := Nat.le_trans (Nat.le_mul_of_pos_right _ hb0) hfit
      unfold capB at this; unfold lim; omega
     ·have hnewr : RRows (M.ext b (rows.length * sz0) nv) sz0 new b (0 + rows.length * sz0) := by
       rw [Nat.zero_add]
       refine RRows.of_flat hnsz (RCells_of _ _ _ (hn2.mono hMle) fun i v hi => ?_)
       have hil := (List.getElem?_eq_some_iff.1 hi).1
       unfold Mem.ext
       rw [if_pos ⟨rfl, by omega, by omega⟩, ← hi]
       congr 1
       omega
      by_cases hne : rows = []
      ·subst hne
       simpa using hnewr
      ·obtain ⟨b', o', he, hrr⟩ := hrow hne
       cases he
       exact (hrr.mono hMle).append hnewr
   ·refine app_new (z := z) (rows := rows) (new := new) hc ht0 hT hB hz hzl ht1 hk hod hlen hnd hosz hnsz rfl (by omega) hfit hb0 (fun nb y => σ.ren b nb y) (fun y c x hx => ?_) (fun y => Store.nodup_ren hc.nodup hc.fresh) (fun cap' => h _ cap' (.inr hc.fresh))
    rcases Store.mem_ren hc.nodup hx with ⟨h1, h2, _⟩ | ⟨_, h2⟩
    ·exact .inl ⟨h1, h2⟩
    ·exact .inr h2
  | nil =>
   simp only [TokR] at htok
   obtain ⟨rfl, rfl⟩ := htok
   have hre : rows = [] := List.eq_nil_of_length_eq_zero (by omega)
   subst hre
   by_cases hne : new = []
   ·subst hne
    have hnv : nv = [] := List.eq_nil_of_length_eq_zero (by simpa using hn3)
    subst hnv
    refine NOut.value M w σ _ _ (lift_value (run_append_zero (ty := ty) ht0 hT ht1 hk hlen hn1 (Nat.le_refl _))) (Step.refl _ _ _) hc ?_ (h.1 rfl)
    simp only [R, TokR]
    exact ⟨none, 0, rfl, by simp, by simp, by simp, rfl, rfl⟩
   ·refine app_new (z := z) (rows := []) (new := new) hc ht0 hT hB hz hzl ht1 hk hod hlen hnd hosz hnsz rfl (by have := List.length_pos_iff.2 hne; simpa using this) hfit hb0 (fun nb y => (nb, y) :: σ) (fun y c x hx => ?_) (fun y => ?_) (fun cap' => ?_)
    ·rcases List.mem_cons.1 hx with hx | hx
     ·cases hx; exact .inl ⟨rfl, rfl⟩
     ·exact .inr hx
    ·simp only [Store.keys, List.map_cons, List.nodup_cons]; exact ⟨hc.fresh, hc.nodup⟩
    ·have := h.2 hne w.heap.size cap' hc.fresh
     simpa using this
  | full =>
   simp only [TokR] at htok
   subst htok
   by_cases hne : new = []
   ·subst hne
    have hnv : nv = [] := List.eq_nil_of_length_eq_zero (by simpa using hn3)
    subst hnv
    exact NOut.value M w σ _ _ (lift_value (run_append_zero (ty := ty) ht0 hT ht1 hk hlen hn1 (Nat.le_refl _))) (Step.refl _ _ _) hc hs (h.1 rfl)
   ·refine app_new (z := z) (rows := rows) (new := new) hc ht0 hT hB hz hzl ht1 hk hod hlen hnd hosz hnsz rfl (by have := List.length_pos_iff.2 hne; omega) hfit hb0 (fun nb y => (nb, y) :: σ) (fun y c x hx => ?_) (fun y => ?_) (fun cap' => ?_)
    ·rcases List.mem_cons.1 hx with hx | hx
     ·cases hx; exact .inl ⟨rfl, rfl⟩
     ·exact .inr hx
    ·simp only [Store.keys, List.map_cons, List.nodup_cons]; exact ⟨hc.fresh, hc.nodup⟩
    ·exact h.2 hne w.heap.size cap' hc.fresh
 ·exact h.elim
/-- append to what is written to: a new block. -/
theorem appM_new {ts : Array TypeId} {ty : TypeId} {p : Option Addr} {n cap : Nat} {xv : Value} {T e t1 : TypeId} {g : Bool} {sz by_ : Nat} {z : List D} {rows new : List (List D)} (hc : Conc M w σ)
  (ht0 : ts[0]? = some T) (hT : sle P T = some (e, g, sz)) (hB : eby P T = some by_) (hz : zc P e = some z) (hzl : z.length = sz) (ht1 : ts[1]? = some t1) (hk : (sle P t1).isSome = true ∨ isStrT P t1 = true)
  (hold : ∃ vs, (Builtin.firstCells sz n (.slice p n cap)).run P w.drew = .ok (List.toArray vs) w.drew ∧ RAll M rows.flatten vs ∧ vs.length = n * sz)
  (hlen : Builtin.lenOf xv = pure new.length) (hnew : ∃ vs, (Builtin.firstCells sz new.length xv).run P w.drew = .ok (List.toArray vs) w.drew ∧ RAll M new.flatten vs ∧ vs.length = new.length * sz)
  (hr : ∀ r ∈ rows, r.length = sz ∧ r.all D.isCell = true) (hn : ∀ r ∈ new, r.length = sz ∧ r.all D.isCell = true) (hrl : rows.length = n) (hgt : cap < n + new.length) (hfit : (n + new.length) * by_ ≤ capB) (hb0 : 0 < by_)
  (σ' : Nat → Box → Store) (hσ1 : ∀ y c x, (c, x) ∈ σ' w.heap.size y → (c = w.heap.size ∧ x = y) ∨ (c, x) ∈ σ) (hσ2 : ∀ y, (σ' w.heap.size y).keys.Nodup)
  {cs : Array Bool} (h : ∀ cap', n + new.length ≤ cap' → K (.arr w.heap.size sz (n + new.length) cap') (σ' w.heap.size (.arr sz (rows ++ new) cap'))) :
  NOut P M w σ (builtin .append ts ty cs #[.slice p n cap, xv]) K X := by
 obtain ⟨ov, ho1, ho2, ho3⟩ := hold
 obtain ⟨nv, hn1, hn2, hn3⟩ := hnew
 obtain ⟨cap', rest, h1, h2, h3⟩ := run_append_grow (w := w) (ty := ty) ht0 hT hB hz hzl ht1 hk ho1 hlen hn1 ho3 hn3 hgt hfit hb0
 have hl : (rows ++ new).length = n + new.length := by rw [List.length_append, hrl]
 obtain ⟨b1, b2, b3⟩ := hc.drew.newBox (o := .cells (List.toArray ((ov ++ nv) ++ rest)) e (0, 0)) (x := .arr sz (rows ++ new) cap')
  ⟨⟨_, e, alloc_heap_new _ _, h2, by rw [hl]; exact h3, by
    rw [hl, Nat.add_mul, ← ho3, ← hn3, List.flatten_append, ← List.length_append, List.take_left]
    exact ho2.append hn2, fun r hrr => (List.mem_append.1 hrr).elim (hr r) (hn r)⟩, hc.drew.mem_none⟩
 refine NOut.value M (w.drew.alloc _) (σ' w.heap.size (.arr sz (rows ++ new) cap')) _ _ (lift_value h1) { (Step.drew M w σ).trans b2 with keys := fun b hb => ?_ } ⟨b1.mem, hσ2 _, fun c x hx => ?_, hc.glob.of (fun b hb _ => alloc_heap_old w.drew _ hb) (fun b hb => by
   obtain ⟨⟨c, x⟩, hm, rfl⟩ := List.mem_map.1 hb
   rcases hσ1 _ _ _ hm with ⟨h1, _⟩ | h1
   · exact .inr (Nat.le_of_eq h1.symm)
   · exact .inl (List.mem_map_of_mem (f := Prod.fst) h1))⟩ ?_ (h cap' h3)
 ·obtain ⟨⟨c, x⟩, hm, rfl⟩ := List.mem_map.1 hb
  rcases hσ1 _ _ _ hm with ⟨h1, _⟩ | h1
  ·exact .inr (Nat.le_of_eq h1.symm)
  ·exact .inl (List.mem_map_of_mem (f := Prod.fst) h1)
 ·rcases hσ1 _ _ _ hx with ⟨rfl, rfl⟩ | h1
  ·exact b1.box _ _ (List.mem_cons_self ..)
  ·exact b1.box _ _ (List.mem_cons_of_mem _ h1)
 ·simp only [R]
theorem appM_out (hc : Conc M w σ) {ts : Array TypeId} {ty : TypeId} {s x : D} {sv xv : Value} (hs : R M s sv) (hx : R M x xv) (h : nappM P σ ts s x K) {cs : Array Bool} :
  NOut P M w σ (builtin .append ts ty cs #[sv, xv]) K X := by
 unfold nappM at h
 split at h
 ·rename_i e g sz by_ sz1 new hT hB hro
  obtain ⟨⟨⟨z, hz, hzl⟩, ⟨t1, ht1, hk⟩, hsz, hb0, hr1, hcell⟩, h⟩ := h
  obtain ⟨T, ht0, hT⟩ : ∃ T, ts[0]? = some T ∧ sle P T = some (e, g, sz) := by
   cases h0 : ts[0]? with
   | none => rw [h0] at hT; cases hT
   | some T => rw [h0] at hT; exact ⟨T, rfl, hT⟩
  have hB : eby P T = some by_ := by rw [ht0] at hB; exact hB
  have hcell' : new.flatten.all D.isCell = true := by
   rw [List.all_flatten]; exact hcell
  obtain ⟨hlen, ⟨nv, hn1, hn2, hn3⟩, hnsz⟩ := rows_cells' (P := P) hc hx hro hr1
  obtain ⟨_, hnd, _⟩ := rows_cells' (P := P) hc.drew hx hro hr1
  have hone : ∀ y ∈ nv, y.oneCell' = true := RAll_cell hn2 hcell'
  have hnew : ∀ r ∈ new, r.length = sz ∧ r.all D.isCell = true := fun r hr => ⟨hnsz r hr, (List.all_eq_true.1 hcell) r hr⟩
  split at h
  ·rename_i sz0 rows tk
   obtain ⟨⟨htk, hr0, hrc, hfit⟩, h1, h2⟩ := h
   obtain ⟨_, hod, hosz⟩ := rows_cells' (P := P) (sz := sz) (sz1 := sz0) hc.drew hs rfl hr0
   have hs' := hs
   simp only [R] at hs'
   obtain ⟨p, cap, rfl, hle, hlim, hrow, htok⟩ := hs'
   have hcap : cap = rows.length := by
    rcases htk with rfl | rfl
    ·simp only [TokR] at htok
     omega
    ·exact htok
   by_cases hne : new = []
   ·subst hne
    have hnv : nv = [] := List.eq_nil_of_length_eq_zero (by simpa using hn3)
    subst hnv
    exact NOut.value M w σ _ _ (lift_value (run_append_zero (ty := ty) ht0 hT ht1 hk hlen hn1 hle)) (Step.refl _ _ _) hc hs (h1 rfl)
   ·refine appM_new (z := z) (rows := rows) (new := new) hc ht0 hT hB hz hzl ht1 hk hod hlen hnd (fun r hr => ⟨hosz r hr, (List.all_eq_true.1 hrc) r hr⟩) hnew rfl (by have := List.length_pos_iff.2 hne; omega) hfit hb0 (fun nb y => (nb, y) :: σ) (fun y c x hx => ?_) (fun y => ?_) fun cap' hc' => h2 hne _ _ hc.fresh hc'
    ·rcases List.mem_cons.1 hx with hx | hx
     ·cases hx; exact .inl ⟨rfl, rfl⟩
     ·exact .inr hx
    ·simp only [Store.keys, List.map_cons, List.nodup_cons]; exact ⟨hc.fresh, hc.nodup⟩
  ·rename_i b sz0 n cap
   split at h
   ·rename_i sz2 rows cap2 hg
    obtain ⟨⟨rfl, rfl, rfl, hnr, hfit⟩, h1, h2⟩ := h
    obtain ⟨_, hod, hosz⟩ := rows_cells' (P := P) (sz := sz2) (sz1 := sz2) (rows := rows.take n) hc.drew hs (by simp only [rowsOf, hg]; rw [if_pos ⟨trivial, hnr⟩]) (.inr rfl)
    have hbm := Store.get_mem hg
    obtain ⟨⟨vs, T', hv1, hv2, hv3, hv4, hv5⟩, hv6⟩ := hc.box _ _ (Store.mem_of_get hg)
    have hs' := hs
    simp only [R] at hs'
    subst hs'
    have htn : (rows.take n).length = n := by rw [List.length_take]; exact Nat.min_eq_left hnr
    have h5' : ∀ r ∈ rows, r.length = sz2 := fun r hr => (hv5 r hr).1
    by_cases hroom : n + new.length ≤ cap2
    ·obtain ⟨w', k1, k2, k3⟩ := run_append_room (P := P) (w := w) (ty := ty) (n := n) (old := vs) (T' := T') ht0 hT ht1 hk hlen hn1 hv1 hv2 hn3 hroom hone
     have hfl : rows.flatten.length = rows.length * sz2 := flat_length h5'
     have hmul : n * sz2 + nv.length ≤ vs.length := by
      rw [hv2, hn3, ← Nat.add_mul]
      exact Nat.mul_le_mul_right _ hroom
     have hnl : n * sz2 ≤ rows.length * sz2 := Nat.mul_le_mul_right _ hnr
     have hrl : rows.length * sz2 ≤ vs.length := by rw [hv2]; exact Nat.mul_le_mul_right _ hv3
     have hlen3 : (rows.take n ++ new ++ rows.drop (n + new.length)).length = n + new.length + (rows.length - (n + new.length)) := by
      simp only [List.length_append, htn, List.length_drop]
     have hbox : BoxR M w' b (.arr sz2 (rows.take n ++ new ++ rows.drop (n + new.length)) cap2) := by
      refine ⟨⟨_, T', k3, by simp only [List.length_append, List.length_take, List.length_drop]; omega, by rw [hlen3]; omega, ?_, fun r hr => ?_⟩, hv6⟩
      ·have e1 : vs.take (n * sz2) = (vs.take (rows.length * sz2)).take (n * sz2) := by rw [List.take_take, Nat.min_eq_left hnl]
       have a1 : RAll M (rows.take n).flatten (vs.take (n * sz2)) := by
        rw [flat_take h5', e1]; exact hv4.take _
       have a3 : RAll M (rows.drop (n + new.length)).flatten ((vs.take (rows.length * sz2)).drop ((n + new.length) * sz2)) := by
        have : (rows.drop (n + new.length)).flatten = rows.flatten.drop ((n + new.length) * sz2) := flat_drop h5'
        rw [this]; exact hv4.drop _
       have e3 : List.take ((rows.take n ++ new ++ rows.drop (n + new.length)).length * sz2) (vs.take (n * sz2) ++ nv ++ vs.drop (n * sz2 + nv.length)) = vs.take (n * sz2) ++ nv ++ (vs.take (rows.length * sz2)).drop ((n + new.length) * sz2) := by
        have l1 : (vs.take (n * sz2) ++ nv).length = (n + new.length) * sz2 := by
         rw [List.length_append, List.length_take, Nat.min_eq_left (by omega), hn3, Nat.add_mul]
        rw [hlen3, Nat.add_mul, ← l1, List.take_length_add_append, l1, hn3, ← Nat.add_mul, List.drop_take, Nat.sub_mul]
       rw [e3, List.flatten_append, List.flatten_append]
       exact (a1.append hn2).append a3
      ·rcases List.mem_append.1 hr with hr | hr
       ·rcases List.mem_append.1 hr with hr | hr
        ·exact hv5 r (List.mem_of_mem_take hr)
        ·exact hnew r hr
       ·exact hv5 r (List.mem_of_mem_drop hr)
     obtain ⟨c1, s1⟩ := hc.turn (w' := w') (b := b) hbm k2.size k2.os k2.tape k2.output k2.other (fun o v hov => by rw [hv6 o] at hov; cases hov) hbox
     exact NOut.value _ w' _ _ _ (lift_value k1) s1 c1 (by simp only [R]) (h1 hroom)
    ·rw [htn] at hod
     refine appM_new (z := z) (rows := rows.take n) (new := new) hc ht0 hT hB hz hzl ht1 hk hod hlen hnd (fun r hr => hv5 r (List.mem_of_mem_take hr)) hnew htn (by omega) hfit hb0 (fun nb y => σ.ren b nb y) (fun y c x hx => ?_) (fun y => Store.nodup_ren hc.nodup hc.fresh) fun cap' hc' => h2 (by omega) _ _ hc.fresh hc'
     rcases Store.mem_ren hc.nodup hx with ⟨h1, h2, _⟩ | ⟨_, h2⟩
     ·exact .inl ⟨h1, h2⟩
     ·exact .inr h2
   ·exact h.elim
  ·exact h.elim
 ·exact h.elim
end
end Go.Proofs.YtfjnohmdilmfhaaGreatDoor
/- Own layer, part 11: store, make, range over a string, calls; all operations that are not quiet. -/
namespace Go.Proofs.YtfjnohmdilmfhaaGreatDoor
open Go Go.RowKit
set_option linter.unusedSimpArgs false
set_option linter.unusedVariables false
section
variable {P : Program} {M : Mem} {w : World} {σ : Store} {K X : D → Store → Prop}
theorem szOf_some {T : TypeId} {n : Nat} (h : szOf P T = some n) : ∃ g, lsz P T = some (g, n) := by
 unfold szOf at h
 simp only [Option.map_eq_some_iff] at h
 obtain ⟨⟨g, m⟩, h1, rfl⟩ := h
 exact ⟨g, h1⟩
theorem rows_set {sz : Nat} : ∀ {rows : List (List D)} {i k : Nat} {ds : List D}, (∀ r ∈ rows, r.length = sz) → i < rows.length → k + ds.length ≤ sz →
  (rows.set i (putCells (rows.getD i []) k ds)).flatten = putCells rows.flatten (i * sz + k) ds
 | [], _, _, _, _, h, _ => by simp at h
 | r :: rs, 0, k, ds, hl, _, hk => by
  have hr := hl r (by simp)
  simp only [List.set_cons_zero, List.getD_cons_zero, List.flatten_cons, putCells, Nat.zero_mul, Nat.zero_add]
  rw [List.take_append_of_le_length (by omega), List.drop_append_of_le_length (by omega)]
  simp only [List.append_assoc]
 | r :: rs, i + 1, k, ds, hl, hi, hk => by
  have hr := hl r (by simp)
  simp only [List.length_cons] at hi
  have ih := rows_set (rows := rs) (i := i) (k := k) (ds := ds) (fun x hx => hl x (List.mem_cons_of_mem _ hx)) (by omega) hk
  simp only [putCells] at ih
  simp only [List.set_cons_succ, List.getD_cons_succ, List.flatten_cons, putCells, ih]
  rw [show (i + 1) * sz + k = r.length + (i * sz + k) from by rw [hr, Nat.add_mul]; omega, List.take_length_add_append, show r.length + (i * sz + k) + ds.length = r.length + (i * sz + k + ds.length) from by omega, List.drop_length_add_append]
  simp only [List.append_assoc]
theorem putCells_len {cs ds : List D} {o : Nat} (h : o + ds.length ≤ cs.length) : (putCells cs o ds).length = cs.length := by
 simp [putCells]; omega
theorem putCells_cell {cs ds : List D} {o : Nat} (h1 : cs.all D.isCell = true) (h2 : ds.all D.isCell = true) : (putCells cs o ds).all D.isCell = true := by
 rw [List.all_eq_true] at h1 h2 ⊢
 intro x hx
 simp only [putCells, List.mem_append] at hx
 rcases hx with (hx | hx) | hx
 ·exact h1 x (List.mem_of_mem_take hx)
 ·exact h2 x hx
 ·exact h1 x (List.mem_of_mem_drop hx)
theorem copy_out (hc : Conc M w σ) {ts : Array TypeId} {ty : TypeId} {d x : D} {dv xv : Value} (hd : R M d dv) (hx : R M x xv) (h : ncopy P σ ts d x K) {cs : Array Bool} :
  NOut P M w σ (builtin .copy ts ty cs #[dv, xv]) K X := by
 unfold ncopy at h
 split at h
 ·rename_i e g sz b o n cc sz1 new hT hro
  split at h
  ·rename_i cs0 hg
   obtain ⟨⟨h1, h2, h3, h4⟩, hk⟩ := h
   obtain ⟨T, ht0, hT⟩ : ∃ T, ts[0]? = some T ∧ sle P T = some (e, g, sz) := by
    cases h0 : ts[0]? with
    | none => rw [h0] at hT; cases hT
    | some T => rw [h0] at hT; exact ⟨T, rfl, hT⟩
   simp only [R] at hd
   subst hd
   have hcell' : new.flatten.all D.isCell = true := by
    rw [List.all_flatten]; exact h2
   obtain ⟨hlen, ⟨nv, hn1, hn2, hn3⟩, hnsz⟩ := rows_cells' (P := P) hc hx hro h1
   obtain ⟨⟨vs, T', hv1, hv2, hv3⟩, hv4⟩ := hc.box _ _ (Store.mem_of_get hg)
   have hvl := hv2.length
   have hfl := hn2.length
   obtain ⟨w', r1, r2, r3⟩ := run_storeCells (P := P) nv w vs o 0 hv1 (by rw [hn3, h3]; omega) (RAll_cell hn2 hcell')
   simp only [Nat.add_zero] at r3
   obtain ⟨hu, hz⟩ := sle_some hT
   have hrun : (Builtin.copy_ ts ty #[.slice (some ⟨b, o, none⟩) n cc, xv]).run P w = .ok (goInt n) w' := by
    unfold Builtin.copy_
    simp only [ht0, List.getElem?_toArray, List.getElem?_cons_zero, List.getElem?_cons_succ, Sem.run_bind, run_underlying' hu, Result.andThen_ok, hlen, Sem.run_pure, run_sizeOf' hz]
    rw [show Nat.min new.length n = new.length by rw [h3]; exact Nat.min_self n, hn1]
    simp only [Result.andThen_ok, r1, h3]
   have hput : RAll M (putCells cs0 o new.flatten) (vs.take o ++ nv ++ vs.drop (o + nv.length)) := by
    unfold putCells
    rw [hfl]
    exact ((hv2.take o).append hn2).append (hv2.drop _)
   obtain ⟨c1, s1⟩ := hc.turn (w' := w') (b := b) (y := .cells (putCells cs0 o new.flatten)) (Store.get_mem hg) r2.size r2.os r2.tape r2.output r2.other (fun o v hm => by rw [hv4 o] at hm; cases hm)
    ⟨⟨_, T', r3, hput, putCells_cell hv3 hcell'⟩, hv4⟩
   exact NOut.value M w' _ .top _ (lift_value hrun) s1 c1 (by simp only [R]) hk
  ·exact h.elim
 ·exact h.elim
theorem store_out (hc : Conc M w σ) {T : TypeId} {a x : D} {av xv : Value} (ha : R M a av) (hx : R M x xv)
  (h : nstore P σ T a x K) {s : Sem Next} (hs : s = (do Instr.storeAt T av xv; pure .skip)) : NOut P M w σ s K X := by
 subst hs
 unfold nstore at h
 split at h
 ·rename_i b o n hz
  obtain ⟨g, hz⟩ := szOf_some hz
  simp only [R] at ha
  subst ha
  split at h
  ·rename_i cs hg
   obtain ⟨⟨h1, h2, h3, h4⟩, hk⟩ := h
   have hcells := R_cells hx h1
   have hlen := hcells.length
   obtain ⟨⟨vs, T', hv1, hv2, hv3⟩, hv4⟩ := hc.box _ _ (Store.mem_of_get hg)
   have hvl := hv2.length
   obtain ⟨w', r1, r2, r3⟩ := run_storeCells (P := P) xv.cells.toList w vs o 0 hv1 (by omega) (RAll_cell hcells h2)
   simp only [Nat.add_zero] at r3
   have hrun : (Instr.storeAt T (.pointer (some ⟨b, o, none⟩)) xv).run P w = .ok () w' := by
    simp only [Instr.storeAt, Instr.sureAddr, Sem.run_bind, Sem.run_pure, Result.andThen_ok, storeVar, run_sizeOf' hz]
    rw [if_neg (by simp at hlen; omega)]
    exact r1
   have hput : RAll M (putCells cs o x.cellsOf) (vs.take o ++ xv.cells.toList ++ vs.drop (o + xv.cells.toList.length)) := by
    unfold putCells
    rw [hlen]
    exact ((hv2.take o).append hcells).append (hv2.drop _)
   obtain ⟨c1, s1⟩ := hc.turn (w' := w') (b := b) (y := .cells (putCells cs o x.cellsOf)) (Store.get_mem hg) r2.size r2.os r2.tape r2.output r2.other (fun o v hm => by rw [hv4 o] at hm; cases hm)
    ⟨⟨_, T', r3, hput, putCells_cell hv3 h2⟩, hv4⟩
   exact .skip M w' _ (by simp only [Sem.run_bind, hrun, Result.andThen_ok, Sem.run_pure]) s1 c1 hk
  ·rename_i sz rows cap hg
   obtain ⟨⟨h1, h2, h3, h4, h5⟩, hk⟩ := h
   have hcells := R_cells hx h1
   have hlen := hcells.length
   obtain ⟨⟨vs, T', hv1, hv2, hv3, hv5, hv6⟩, hv4⟩ := hc.box _ _ (Store.mem_of_get hg)
   have hsz : ∀ r ∈ rows, r.length = sz := fun r hr => (hv6 r hr).1
   have ho : o = o / sz * sz + o % sz := by rw [Nat.mul_comm]; exact (Nat.div_add_mod o sz).symm
   have hb1 : o + n ≤ rows.length * sz := by
    have : (o / sz + 1) * sz ≤ rows.length * sz := Nat.mul_le_mul_right _ h5
    rw [Nat.add_mul] at this
    omega
   have hb2 : rows.length * sz ≤ cap * sz := Nat.mul_le_mul_right _ hv3
   obtain ⟨w', r1, r2, r3⟩ := run_storeCells (P := P) xv.cells.toList w vs o 0 hv1 (by omega) (RAll_cell hcells h2)
   simp only [Nat.add_zero] at r3
   have hrun : (Instr.storeAt T (.pointer (some ⟨b, o, none⟩)) xv).run P w = .ok () w' := by
    simp only [Instr.storeAt, Instr.sureAddr, Sem.run_bind, Sem.run_pure, Result.andThen_ok, storeVar, run_sizeOf' hz]
    rw [if_neg (by simp at hlen; omega)]
    exact r1
   have hflat : (rows.set (o / sz) (putCells (rows.getD (o / sz) []) (o % sz) x.cellsOf)).flatten = putCells rows.flatten o x.cellsOf := by
    rw [rows_set hsz h5 (by omega), ← ho]
   have hfl := flat_length hsz
   have htk : (vs.take (rows.length * sz)).length = rows.length * sz := by rw [List.length_take]; omega
   have hput : RAll M (putCells rows.flatten o x.cellsOf) ((vs.take o ++ xv.cells.toList ++ vs.drop (o + xv.cells.toList.length)).take (rows.length * sz)) := by
    have e : (vs.take o ++ xv.cells.toList ++ vs.drop (o + xv.cells.toList.length)).take (rows.length * sz) =
      (vs.take (rows.length * sz)).take o ++ xv.cells.toList ++ (vs.take (rows.length * sz)).drop (o + xv.cells.toList.length) := by
     have hU : vs = vs.take (rows.length * sz) ++ vs.drop (rows.length * sz) := (List.take_append_drop _ _).symm
     generalize vs.take (rows.length * sz) = U at htk hU ⊢
     generalize vs.drop (rows.length * sz) = V at hU
     subst hU
     have e1 : (U ++ V).take o = U.take o := List.take_append_of_le_length (by omega)
     have e2 : (U ++ V).drop (o + xv.cells.toList.length) = U.drop (o + xv.cells.toList.length) ++ V := List.drop_append_of_le_length (by omega)
     rw [e1, e2, ← List.append_assoc]
     exact List.take_left' (by simp only [List.length_append, List.length_take, List.length_drop]; omega)
    rw [e]
    unfold putCells
    rw [hlen]
    exact ((hv5.take o).append hcells).append (hv5.drop _)
   have hrow : ∀ r ∈ rows.set (o / sz) (putCells (rows.getD (o / sz) []) (o % sz) x.cellsOf), r.length = sz ∧ r.all D.isCell = true := by
    intro r hr
    rcases List.mem_or_eq_of_mem_set hr with hr | rfl
    ·exact hv6 r hr
    ·have hm := hv6 (rows.getD (o / sz) []) (by rw [List.getD_eq_getElem?_getD, List.getElem?_eq_getElem h5]; exact List.getElem_mem h5)
     exact ⟨by rw [putCells_len (by omega)]; exact hm.1, putCells_cell hm.2 h2⟩
   obtain ⟨c1, s1⟩ := hc.turn (w' := w') (b := b) (y := .arr sz (rows.set (o / sz) (putCells (rows.getD (o / sz) []) (o % sz) x.cellsOf)) cap) (Store.get_mem hg) r2.size r2.os r2.tape r2.output r2.other (fun o v hm => by rw [hv4 o] at hm; cases hm)
    ⟨⟨_, T', r3, by simp only [List.length_append, List.length_take, List.length_drop]; omega, by rw [List.length_set]; exact hv3, by rw [List.length_set, hflat]; exact hput, hrow⟩, hv4⟩
   exact .skip M w' _ (by simp only [Sem.run_bind, hrun, Result.andThen_ok, Sem.run_pure]) s1 c1 hk
  ·exact h.elim
 ·exact h.elim
theorem decode_le (s : ByteArray) (i : Nat) : (Utf8.decode s i).1 ≤ 2097151 := by
 unfold Utf8.decode
 simp only [Utf8.runeError]
 repeat' split
 all_goals first | omega | (simp only []; omega)
theorem range_out (hc : Conc M w σ) {T : TypeId} {s : List UInt8} {xv : Value} (hx : R M (.str s) xv) (hT : isStrT P T = true) (h : ∀ b, b ∉ σ.keys → K (.ptr b 0) ((b, .siter s 0) :: σ)) :
  NOut P M w σ (do pure (Next.value (← Instr.range T xv))) K X := by
 simp only [R] at hx
 obtain ⟨rfl, _⟩ := hx
 have hrun : (Instr.range T (.string ⟨s.toArray⟩)).run P w = .ok (.pointer (some ⟨w.heap.size, 0, none⟩)) (w.alloc (.stringIter ⟨s.toArray⟩ 0)) := by
  unfold Instr.range
  simp only [Sem.run_bind, run_underlying' (isStrT_iff hT), Result.andThen_ok, Sem.run_pure, run_newObj]
  rfl
 obtain ⟨h1, h2, h3⟩ := hc.newBox (o := .stringIter ⟨s.toArray⟩ 0) (x := .siter s 0) ⟨alloc_heap_new w _, hc.mem_none⟩
 exact .value _ _ _ _ _ (lift_value hrun) h2 h1 (by simp only [R]) (h _ h3)
theorem next_out (hc : Conc M w σ) {T : TypeId} {b pos : Nat} {s : List UInt8} (hg : σ.get b = some (.siter s pos)) (hl : s.length ≤ lim)
  (h1 : pos < s.length → K (.tup [.bool true, .int .i64 pos, .int .i32 (Utf8.decode ⟨s.toArray⟩ pos).1]) (σ.upd b (.siter s (pos + (Utf8.decode ⟨s.toArray⟩ pos).2))))
  (h2 : s.length ≤ pos → K (.tup [.bool false]) σ) : NOut P M w σ (do pure (Next.value (← Instr.next (.pointer (some ⟨b, 0, none⟩)) true T))) K X := by
 obtain ⟨hh, hm⟩ := hc.box _ _ (Store.mem_of_get hg)
 have hsz : (ByteArray.mk s.toArray).size = s.length := by simp [ByteArray.size]
 have hget : (getObj b).run P w = .ok (.stringIter ⟨s.toArray⟩ pos) w := by simp only [getObj, Sem.run, hh]
 by_cases hp : pos < s.length
 ·have hrun : (Instr.next (.pointer (some ⟨b, 0, none⟩)) true T).run P w = .ok (.tuple #[.bool true, .int .i64 pos, .int .i32 (Utf8.decode ⟨s.toArray⟩ pos).1])
    { w with heap := w.heap.setIfInBounds b (.stringIter ⟨s.toArray⟩ (pos + (Utf8.decode ⟨s.toArray⟩ pos).2)) } := by
   unfold Instr.next
   simp only [Sem.run_bind, hget, Result.andThen_ok, hsz, if_pos hp, setObj, Sem.run, hh, Sem.run_pure, goInt]
  have hlt : b < w.heap.size := (Array.getElem?_eq_some_iff.1 hh).1
  obtain ⟨c1, s1⟩ := hc.turn (w' := { w with heap := w.heap.setIfInBounds b (.stringIter ⟨s.toArray⟩ (pos + (Utf8.decode ⟨s.toArray⟩ pos).2)) }) (b := b) (y := .siter s (pos + (Utf8.decode ⟨s.toArray⟩ pos).2))
   (Store.get_mem hg) (by simp) rfl rfl rfl (fun k hk => by simp only [Array.getElem?_setIfInBounds]; rw [if_neg (fun e => hk e.symm)]) (fun o v hv => by rw [hm o] at hv; cases hv)
   ⟨by simp [hlt], hm⟩
  refine NOut.value _ _ _ _ _ (lift_value hrun) s1 c1 ?_ (h1 hp)
  simp only [R]
  refine ⟨_, rfl, ?_⟩
  have hd := decode_le ⟨s.toArray⟩ pos
  simp only [RAll, R, inR_i64, inR_i32, and_true, true_and]
  unfold lim at hl
  omega
 ·have hrun : (Instr.next (.pointer (some ⟨b, 0, none⟩)) true T).run P w = .ok (.tuple #[.bool false]) w := by
   unfold Instr.next
   simp only [Sem.run_bind, hget, Result.andThen_ok, hsz, if_neg hp, Sem.run_pure]
  refine NOut.value _ _ _ _ _ (lift_value hrun) (Step.refl _ _ _) hc ?_ (h2 (by omega))
  simp only [R]
  exact ⟨_, rfl, by simp only [RAll, R, and_self]⟩
theorem eby_some {T : TypeId} {n : Nat} {e : TypeId} (h : eby P T = some n) (hu : P.underlying T = some (.slice e)) : ∃ i, P.info? e = some i ∧ i.bytes = n := by
 unfold eby at h
 rw [hu] at h
 simpa using h
theorem zrep_flat (z : List D) : ∀ n, zrep z n = (List.replicate n z).flatten
 | 0 => rfl
 | n + 1 => by simp [zrep, List.replicate_succ, zrep_flat z n]
theorem makeSlice_run {T e : TypeId} {g : Bool} {sz by_ : Nat} {z : List D} {n m : Int} (hT : sle P T = some (e, g, sz)) (hB : eby P T = some by_) (hz : zc P e = some z) (h0 : 0 ≤ n) (h1 : n ≤ m) (h2 : m * by_ ≤ capB) (hzl : z.length = sz) (hsz : 0 < sz) (hby : 0 < by_) :
  ∃ us : List Value, us.length = m.toNat * sz ∧ RAll M (zrep z m.toNat) us ∧
   (Instr.makeSlice T (.int .i64 n) (.int .i64 m)).run P w = .ok (.slice (some ⟨w.heap.size, 0, none⟩) n.toNat m.toNat) (w.alloc (.cells (List.toArray us) e (0, 0))) := by
 obtain ⟨hu, hl⟩ := sle_some hT
 obtain ⟨i, hi, hib⟩ := eby_some hB hu
 obtain ⟨zv, hz1, hz2, hz3⟩ := run_zero (P := P) (M := M) (w := w) hz
 have hzl2 := hz2.length
 obtain ⟨us, hu1, hu2, hu3⟩ := RAll_zrep hz2 m.toNat
 have hmb : m ≤ capB := by
  have : m * 1 ≤ m * by_ := Int.mul_le_mul_of_nonneg_left (by omega) (by omega)
  omega
 have wr : ∀ x : Int, 0 ≤ x → x ≤ capB → IntKind.i64.wrap x = x := fun x hx hx2 => by
  unfold capB at hx2
  simp only [IntKind.wrap, IntKind.signed, IntKind.bits]
  simp
  rw [Int.emod_eq_of_lt (by omega) (by omega), if_neg (by omega)]
 have hwn := wr n h0 (by omega)
 have hwm := wr m (by omega) hmb
 refine ⟨us, by rw [hu1, ← hzl2, hzl], hu2, ?_⟩
 have hzero : (Array.range (m.toNat * sz)).map (fun x => (if m.toNat * sz = 0 then (#[] : Array Value) else zv.cells)[x % (if m.toNat * sz = 0 then (#[] : Array Value) else zv.cells).size]!) = List.toArray us := by
  apply Array.ext_getElem?
  intro i
  simp only [Array.getElem?_map, List.getElem?_toArray]
  rcases Nat.lt_or_ge i (m.toNat * sz) with hi | hi
  ·rw [if_neg (by omega)]
   have : (Array.range (m.toNat * sz))[i]? = some i := by simp [hi]
   rw [this]
   have h3 := hu3 i (by rw [← hzl2, hzl]; exact hi)
   rw [h3]
   simp [getElem!_def]
  ·have h4 : us[i]? = none := by rw [List.getElem?_eq_none]; rw [hu1, ← hzl2, hzl]; exact hi
   rw [h4]
   simp [hi]
 have hno : ∀ x : Int, 0 ≤ x → x * by_ ≤ capB → ((decide (x < 0) || decide ((i.bytes : Int) * x > 2 ^ 48)) = false) := fun x hx hx2 => by
  rw [hib, Int.mul_comm]
  unfold capB at hx2
  simp only [Bool.or_eq_false_iff, decide_eq_false_iff_not]
  omega
 unfold Instr.makeSlice
 simp only [Sem.run_bind, run_underlying' hu, Result.andThen_ok, asInt, asIntOf, Sem.run_pure, run_typeInfo' hi, hwn, hwm, hno m (by omega) h2, Bool.false_or]
 have e1 : decide (n < 0) = false := by simp; omega
 have e2 : decide (n > m) = false := by simp; omega
 simp only [e1, e2, Bool.or_self, Bool.false_eq_true, if_false, Sem.run_bind, run_askRoom, Result.andThen_ok, run_sizeOf' hl]
 by_cases hz0 : m.toNat * sz = 0
 ·simp only [if_pos hz0] at hzero ⊢
  simp only [Sem.run_bind, Sem.run_pure, Result.andThen_ok]
  rw [hzero]
  rfl
 ·simp only [if_neg hz0] at hzero ⊢
  simp only [Sem.run_bind, Sem.run_pure, Result.andThen_ok, hz1]
  rw [hzero]
  rfl
/-! ### Maps -/
theorem keyStays_run {k : D} {e : D} {old new : Value} {r : Bool} (h : keqD k e = some true) (hn : R M k new) (ho : R M e old) : (Instr.keyThatStays old new).run P w = .ok new w := by
 unfold keqD at h
 have hs : Instr.sameBits 10000 old new = true := by
  split at h
  ·rename_i k1 a k2 b
   simp only [R] at hn ho
   obtain ⟨rfl, _⟩ := hn
   obtain ⟨rfl, _⟩ := ho
   split at h
   ·rename_i e'
    subst e'
    simp only [Option.some.injEq, decide_eq_true_eq] at h
    subst h
    simp [Instr.sameBits]
   ·cases h
  ·rename_i s t
   simp only [R] at hn ho
   obtain ⟨rfl, _⟩ := hn
   obtain ⟨rfl, _⟩ := ho
   simp only [Option.some.injEq, decide_eq_true_eq] at h
   subst h
   simp only [Instr.sameBits]
   rw [beq_toListBytes]
   simp
  ·cases h
 unfold Instr.keyThatStays
 rw [if_pos hs]
 rfl
/-- Where a key is put. -/
theorem put_split {kt : TypeId} {d : TypeDesc} (hd : P.underlying kt = some d) {k x : D} {v : Value} (hk : keyOK P kt k = true) (hv : R M k v) : ∀ {es : List (D × D)} {ms : List MapEntry} {es' : List (D × D)} (i : Nat), EntsR M es ms → mput k x es = some es' →
  (Instr.findNow d v ms i = some none ∧ es' = es ++ [(k, x)]) ∨
  ∃ pre m post y, ms = pre ++ m :: post ∧ Instr.findNow d v ms i = some (some (i + pre.length, y)) ∧ (Instr.keyThatStays m.key v).run P w = .ok v w ∧
   ∀ xv, R M x xv → EntsR M es' (pre ++ { m with key := v, val := xv } :: post)
 | [], [], es', i, _, h => by simp only [mput] at h; cases h; exact .inl ⟨rfl, rfl⟩
 | e :: es, m :: ms, es', i, ⟨h1, h2⟩, h => by
  simp only [mput] at h
  split at h
  ·rename_i he
   cases h
   have := sameNow_of hd he hk hv h1.1
   refine .inr ⟨[], m, ms, m.val, rfl, by simp only [Instr.findNow, this]; rfl, keyStays_run (r := true) he hv h1.1, fun xv hx => ⟨⟨hv, hx⟩, h2⟩⟩
  ·rename_i he
   have := sameNow_of hd he hk hv h1.1
   cases hp : mput k x es with
   | none => rw [hp] at h; cases h
   | some l =>
    rw [hp] at h
    simp only [Option.map_some, Option.some.injEq] at h
    subst h
    rcases put_split hd hk hv (i + 1) h2 hp with ⟨f1, rfl⟩ | ⟨pre, m', post, y, rfl, f1, f2, f3⟩
    ·exact .inl ⟨by simp only [Instr.findNow, this]; exact f1, rfl⟩
    ·refine .inr ⟨m :: pre, m', post, y, rfl, by simp only [Instr.findNow, this, f1, List.length_cons]; congr 3; omega, f2, fun xv hx => ⟨h1, f3 xv hx⟩⟩
  ·cases h
 | [], _ :: _, _, _, h, _ => h.elim
 | _ :: _, [], _, _, h, _ => h.elim
theorem EntsR.snoc {k x : D} {v xv : Value} {born : Nat} (hk : R M k v) (hx : R M x xv) : ∀ {es : List (D × D)} {ms : List MapEntry}, EntsR M es ms → EntsR M (es ++ [(k, x)]) (ms ++ [{ key := v, val := xv, born }])
 | [], [], _ => ⟨⟨hk, hx⟩, trivial⟩
 | _ :: _, _ :: _, ⟨h1, h2⟩ => ⟨h1, EntsR.snoc hk hx h2⟩
 | [], _ :: _, h => h.elim
 | _ :: _, [], h => h.elim
theorem setObj_wr {b : Nat} {o : Obj} {es : Array MapEntry} {c : Nat} (h : w.heap[b]? = some (.map es c)) : ∃ w', (setObj b o).run P w = .ok () w' ∧ Wr w w' b ∧ w'.heap[b]? = some o := by
 have hlt : b < w.heap.size := (Array.getElem?_eq_some_iff.1 h).1
 refine ⟨{ w with heap := w.heap.setIfInBounds b o }, by simp only [setObj, Sem.run, h], ⟨by simp, rfl, rfl, rfl, fun k hk => ?_⟩, by simp [hlt]⟩
 simp only [Array.getElem?_setIfInBounds]
 rw [if_neg (fun e => hk e.symm)]
theorem mput_out (hc : Conc M w σ) {T : TypeId} {m k x : D} {mv kv xv : Value} (hm : R M m mv) (hk : R M k kv) (hx : R M x xv)
  (h : nput P σ T m k x K) {s : Sem Next} (hs : s = (do Instr.mapUpdate T mv kv xv; pure .skip)) : NOut P M w σ s K X := by
 subst hs
 unfold nput at h
 split at h
 ·rename_i b kt e hT
  split at h
  ·rename_i es hg
   split at h
   ·rename_i es' hp
    obtain ⟨hko, h⟩ := h
    obtain ⟨d, hd⟩ := keyOK_under hko
    simp only [R] at hm
    subst hm
    obtain ⟨⟨ms, c, m1, m2, m3, m4⟩, m5⟩ := hc.box _ _ (Store.mem_of_get hg)
    have hbm := Store.get_mem hg
    rcases put_split (w := w) hd hko hk (x := x) 0 m2 hp with ⟨f1, rfl⟩ | ⟨pre, m', post, y, rfl, f1, f2, f3⟩
    ·obtain ⟨w', s1, s2, s3⟩ := setObj_wr (P := P) (o := .map ((List.toArray ms).push { key := kv, val := xv, born := c }) (c + 1)) m1
     obtain ⟨c1, st⟩ := hc.turn (w' := w') (b := b) (y := .map (es ++ [(k, x)])) hbm s2.size s2.os s2.tape s2.output s2.other (fun o v hov => by rw [m5 o] at hov; cases hov)
      ⟨⟨ms ++ [{ key := kv, val := xv, born := c }], c + 1, by rw [s3]; simp, EntsR.snoc hk hx m2, by
        rw [List.map_append, List.nodup_append]
        refine ⟨m3, by simp, fun a ha a' ha' => ?_⟩
        obtain ⟨m, hm, rfl⟩ := List.mem_map.1 ha
        simp at ha'
        subst ha'
        exact Nat.ne_of_lt (m4 m hm), fun m hm => by
        rcases List.mem_append.1 hm with hm | hm
        · have := m4 m hm; omega
        · simp at hm; subst hm; exact Nat.lt_succ_self c⟩, m5⟩
     refine NOut.skip M w' _ ?_ st c1 h
     simp only [Instr.mapUpdate, Sem.run_bind, run_underlying' (mpt_some hT), Result.andThen_ok, getObj_run m1, checkKey_run hko hk, Instr.findKey, run_underlying' hd, f1, Sem.run_pure, s1]
    ·have hget : (List.toArray (pre ++ m' :: post))[0 + pre.length]? = some m' := by simp
     obtain ⟨w', s1, s2, s3⟩ := setObj_wr (P := P) (o := .map ((List.toArray (pre ++ m' :: post)).modify (0 + pre.length) fun e => { e with key := kv, val := xv }) c) m1
     have hmod : ((List.toArray (pre ++ m' :: post)).modify (0 + pre.length) fun e => { e with key := kv, val := xv }) = List.toArray (pre ++ { m' with key := kv, val := xv } :: post) := by
      rw [Nat.zero_add, ← Array.toList_inj]
      simp only [Array.toList_modify]
      have : ∀ (l : List MapEntry), (l ++ m' :: post).modify l.length (fun e => { e with key := kv, val := xv }) = l ++ { m' with key := kv, val := xv } :: post := fun l => by
       induction l with
       | nil => rfl
       | cons a l ih => simp only [List.cons_append, List.length_cons, List.modify_succ_cons, ih]
      exact this pre
     obtain ⟨c1, st⟩ := hc.turn (w' := w') (b := b) (y := .map es') hbm s2.size s2.os s2.tape s2.output s2.other (fun o v hov => by rw [m5 o] at hov; cases hov)
      ⟨⟨pre ++ { m' with key := kv, val := xv } :: post, c, by rw [s3, hmod], f3 xv hx, by simpa using m3, fun m hm => by
        rcases List.mem_append.1 hm with hm | hm
        · exact m4 m (List.mem_append_left _ hm)
        · rcases List.mem_cons.1 hm with rfl | hm
          · exact m4 m' (by simp)
          · exact m4 m (by simp [hm])⟩, m5⟩
     refine NOut.skip M w' _ ?_ st c1 h
     simp only [Instr.mapUpdate, Sem.run_bind, run_underlying' (mpt_some hT), Result.andThen_ok, getObj_run m1, checkKey_run hko hk, Instr.findKey, run_underlying' hd, f1, Sem.run_pure, hget, Option.map_some, Option.getD_some, f2, s1]
   ·exact h.elim
  ·exact h.elim
 ·exact h.elim
theorem makeMap_out (hc : Conc M w σ) {T : TypeId} (h : ∀ b, b ∉ σ.keys → K (.mp b) ((b, .map []) :: σ)) : NOut P M w σ (do pure (Next.value (← Instr.makeMap T none))) K X := by
 obtain ⟨b1, b2, b3⟩ := hc.newBox (o := .map #[] 0) (x := .map []) ⟨⟨[], 0, alloc_heap_new _ _, trivial, by simp, by simp⟩, hc.mem_none⟩
 exact NOut.value _ _ _ (.mp w.heap.size) _ (by rfl) b2 b1 (by simp only [R]) (h _ b3)
/-! ### Zeros appended to nothing -/
theorem appZ_out (hc : Conc M w σ) {ts : Array TypeId} {ty : TypeId} {s x : D} {sv xv : Value} (hs : R M s sv) (hx : R M x xv) (h : nappZ P σ ts s x K) {cs : Array Bool} :
  NOut P M w σ (builtin .append ts ty cs #[sv, xv]) K X := by
 unfold nappZ at h
 split at h
 ·rename_i e g sz by_ k tk n hT hB hI
  split at h
  ·rename_i z hz
   obtain ⟨⟨hzl, hsz, hb0, hn0, hfit⟩, h⟩ := h
   obtain ⟨T, ht0, hT⟩ : ∃ T, ts[0]? = some T ∧ sle P T = some (e, g, sz) := by
    cases h0 : ts[0]? with
    | none => rw [h0] at hT; cases hT
    | some T => rw [h0] at hT; exact ⟨T, rfl, hT⟩
   obtain ⟨t1, ht1, hI⟩ : ∃ t1, ts[1]? = some t1 ∧ ink P t1 = some k := by
    cases h0 : ts[1]? with
    | none => rw [h0] at hI; cases hI
    | some T => rw [h0] at hI; exact ⟨T, rfl, hI⟩
   have hB : eby P T = some by_ := by rw [ht0] at hB; exact hB
   obtain ⟨hu, hl⟩ := sle_some hT
   have hinfo : ∃ i, P.info? e = some i ∧ i.bytes = by_ := by
    unfold eby at hB
    rw [hu] at hB
    simpa using hB
   obtain ⟨i, hi, hib⟩ := hinfo
   obtain ⟨zv, hz1, hz2, hz3⟩ := run_zero (P := P) (M := M) (w := w.drew) hz
   have hzl2 : zv.cells.size = sz := by have := hz2.length; rw [hzl] at this; simpa using this.symm
   simp only [R, TokR] at hs hx
   obtain ⟨p, cap, rfl, _, _, _, rfl, rfl⟩ := hs
   obtain ⟨rfl, hr⟩ := hx
   have hnb : (n.toNat : Int) = n := Int.toNat_of_nonneg (by omega)
   have hfit' : n.toNat * by_ ≤ capB := by
    have : ((n.toNat * by_ : Nat) : Int) ≤ (capB : Int) := by push_cast; rw [hnb]; exact hfit
    exact_mod_cast this
   have hnc : n.toNat ≤ capB := Nat.le_trans (Nat.le_mul_of_pos_right _ hb0) hfit'
   have hn1 : n.toNat ≠ 0 := by omega
   have hw : IntKind.wrap .i64 n = n := by
    rw [inR_i64] at hr
    simp [IntKind.wrap, IntKind.signed, IntKind.bits]
    omega
   have hneed : ¬ ((0 + n.toNat : Nat) : Int) > IntKind.i64.max := by
    unfold capB at hnc
    show ¬ _ > (9223372036854775807 : Int)
    omega
   have hnext : ¬ Builtin.nextslicecap (0 + n.toNat) 0 * by_ > 2 ^ 48 := by
    have := growslice_fits (need := 0 + n.toNat) (old := 0) (bytes := by_) (by omega) (by rw [Nat.zero_add]; exact hfit')
    omega
   have hmk : ¬ n * (by_ : Int) > 2 ^ 48 := by unfold capB at hfit; omega
   obtain ⟨cap', hcap', hle⟩ : ∃ c, (Question.appendCap (0 + n.toNat) 0 e).cut (w.tape w.drawn (.appendCap (0 + n.toNat) 0 e)) = c ∧ 0 + n.toNat ≤ c := ⟨_, rfl, by simp only [Question.cut]; omega⟩
   have hrun : (Builtin.append_ ts ty #[.slice none 0 0, .int .i64 n]).run P w = .ok (.slice (some ⟨w.heap.size, 0, none⟩) (0 + n.toNat) cap')
     (w.drew.alloc (.cells (List.toArray ((Builtin.zeroCells zv.cells n.toNat).toList ++ (Builtin.zeroCells zv.cells (cap' - (0 + n.toNat))).toList)) e (0, 0))) := by
    unfold Builtin.append_
    subst hib
    have hk1 : P.underlying t1 = some (.int k) := ink_some hI
    have hbn : i.bytes ≠ 0 := by omega
    have hgt' : ¬ 0 + n.toNat ≤ 0 := by omega
    have hns : n.toNat * sz ≠ 0 := Nat.mul_ne_zero hn1 (by omega)
    simp only [ht0, List.getElem?_toArray, List.getElem?_cons_zero, List.getElem?_cons_succ, ht1, Sem.run_bind, run_underlying' hu, Result.andThen_ok, run_sizeOf' hl, run_underlying' hk1, Sem.run_pure, if_true, asInt, asIntOf, hw]
    rw [if_neg (show ¬ n < 0 by omega)]
    simp only [Sem.run_bind, run_typeInfo' hi, Result.andThen_ok]
    rw [if_neg hmk]
    simp only [Sem.run_bind, Sem.run_pure, Result.andThen_ok]
    rw [if_neg hgt']
    simp only [Sem.run_bind, run_typeInfo' hi, Result.andThen_ok, true_or, and_true]
    rw [if_neg hneed]
    simp only [Sem.run_bind, run_typeInfo' hi, Result.andThen_ok]
    rw [if_neg hnext]
    simp only [Sem.run_bind, run_choose, Question.forced, Bool.false_eq_true, if_false, Result.andThen_ok]
    rw [hcap']
    simp only [run_askRoom, World.drew_eq, Result.andThen_ok, run_typeInfo' hi, Bool.not_true, Bool.false_eq_true, if_false, hns, Sem.run_pure, Builtin.firstCells, Nat.zero_mul]
    simp only [Sem.run_bind, hz1, Result.andThen_ok, Sem.run_pure, newRow, run_newObj]
    have e1 : (#[] : Array Value) ++ Builtin.zeroCells zv.cells n.toNat ++ Builtin.zeroCells zv.cells (cap' - (0 + n.toNat)) = List.toArray ((Builtin.zeroCells zv.cells n.toNat).toList ++ (Builtin.zeroCells zv.cells (cap' - (0 + n.toNat))).toList) := by apply Array.ext'; simp
    rw [e1]
    rfl
   obtain ⟨us, hu1, hu2, hu3⟩ := RAll_zrep hz2 n.toNat
   have hus : (Builtin.zeroCells zv.cells n.toNat).toList = us := by
    apply List.ext_getElem?
    intro j
    simp only [Builtin.zeroCells, Array.getElem?_toList, Array.getElem?_map]
    rcases Nat.lt_or_ge j (n.toNat * zv.cells.size) with hj | hj
    ·have h3 := hu3 j (by simpa using hj)
     have : (Array.range (n.toNat * zv.cells.size))[j]? = some j := by simp [hj]
     rw [this, h3]
     simp [getElem!_def]
    ·have h4 : us[j]? = none := List.getElem?_eq_none (by rw [hu1]; simpa using hj)
     rw [h4]
     simp [hj]
   have hul : us.length = n.toNat * sz := by rw [hu1]; simp [hzl2]
   have hzc : (Builtin.zeroCells zv.cells (cap' - (0 + n.toNat))).toList.length = (cap' - n.toNat) * sz := by simp [Builtin.zeroCells, hzl2]
   rw [hus] at hrun
   obtain ⟨b1, b2, b3⟩ := hc.drew.newBox (o := .cells (List.toArray (us ++ (Builtin.zeroCells zv.cells (cap' - (0 + n.toNat))).toList)) e (0, 0)) (x := .arr sz (List.replicate n.toNat z) cap')
    ⟨⟨_, e, alloc_heap_new _ _, by rw [List.length_append, hul, hzc, ← Nat.add_mul]; congr 1; omega, by simp; omega, by
      rw [List.length_replicate, ← hul, List.take_left, ← zrep_flat]
      exact hu2, fun r hr => by
      obtain ⟨_, rfl⟩ := List.mem_replicate.1 hr
      exact ⟨hzl, hz3⟩⟩, hc.drew.mem_none⟩
   refine NOut.value _ _ _ (.arr w.heap.size sz n.toNat cap') _ (lift_value hrun) ((Step.drew M w σ).trans b2) b1 ?_ (h _ cap' b3 (by omega))
   simp only [R, Nat.zero_add]
  ·exact h.elim
 ·exact h.elim
end
end Go.Proofs.YtfjnohmdilmfhaaGreatDoor
/- Own layer, part 12: every operation; regions of operations. -/
namespace Go.Proofs.YtfjnohmdilmfhaaGreatDoor
open Go Go.RowKit
set_option linter.unusedSimpArgs false
set_option linter.unusedVariables false
section
variable {P : Program} {M : Mem} {w : World} {σ : Store} {K X : D → Store → Prop}
theorem call_out (hc : Conc M w σ) {fn : Fn} {args : List D} {vs : List Value} (hv : RAll M args vs) {s : Sem Next}
  (hs1 : ∀ g, fn = .func g → s.run P w = (callFunc g (List.toArray vs)).run P w) (hs2 : ∀ l, fn = .yield l → s.run P w = (Instr.yield l (List.toArray vs)).run P w)
  (h : ACall P fn args σ fun r σ' => match r with | .ret d => K d σ' | .pan d => X d σ') : NOut P M w σ s K X := by
 have h1 := h M w vs hc hv
 cases fn with
 | func g =>
  rcases h1 with ⟨h1, h2⟩ | ⟨v, w', h1, M', σ', r, h2, h3, h4, h5⟩
  ·exact .enter g _ ((hs1 g rfl).trans h1) h2
  ·cases r with
   | ret d => exact .value M' w' σ' d v ((hs1 g rfl).trans h1) h2 h3 h4 h5
   | pan d => exact h4.elim
 | yield l =>
  obtain ⟨f, t, a, b, h1, h2⟩ := h1
  exact .round l f t a b ((hs2 l rfl).trans h1) h2
 | method _ => exact h1.elim
 | methodOf _ _ => exact h1.elim
 | via _ _ _ _ => exact h1.elim
theorem nev_sound (hc : Conc M w σ) {imm : Bool} {ρ : Operand → D} {e : Operand → Value} (hρ : ∀ x, R M (ρ x) (e x)) (o : Oper) (h : nev P imm σ ρ K X o.op) : NOut P M w σ (execOp e o) K X := by
 obtain ⟨dst, op, ty, pos, after, guard⟩ := o
 cases op <;> try exact h.elim
 case alloc T =>
  simp only [nev] at h
  split at h
  ·rename_i cs hz
   obtain ⟨z, h1, h2, h3⟩ := run_zero (P := P) (M := M) (w := w) hz
   refine new_out hc h2 h3 ?_ h (T := T)
   simp only [execOp, Instr.alloc, Sem.run_bind, h1, Result.andThen_ok, newVar_run, Sem.run_pure]
  ·exact h.elim
 case box T x =>
  obtain ⟨⟨h1, h2⟩, h⟩ := h
  refine new_out (v := e x) (T := T) hc (R_cells (hρ x) h1) h2 ?_ h
  simp only [execOp, Instr.box, Sem.run_bind, Result.andThen_ok, newVar_run, Sem.run_pure]
 case buildSlice T len parts =>
  simp only [nev] at h
  split at h
  ·rename_i el g sz hT
   split at h
   ·rename_i z hz
    split at h
    ·rename_i cs hf
     obtain ⟨⟨h1, h2, h3, h4, _⟩, h⟩ := h
     refine buildSlice_out (parts := parts.toList.map fun p => (p.1, e p.2)) hc hT hz hf h1 h2 h3 h4 (by simp [Function.comp_def]) ?_ ?_ h
     ·have := RAll_map hρ (parts.toList.map Prod.snd)
      simpa [Function.comp_def] using this
     ·simp only [execOp, map_toArray]
    ·exact h.elim
   ·exact h.elim
  ·exact h.elim
 case store T a x => exact store_out hc (hρ a) (hρ x) h rfl
 case makeMap T r =>
  cases r with
  | none => exact makeMap_out hc h
  | some _ => exact h.elim
 case mapUpdate T m k x => exact mput_out hc (hρ m) (hρ k) (hρ x) h rfl
 case insert T m k x => exact mput_out hc (hρ m) (hρ k) (hρ x) h rfl
 case range T x =>
  simp only [nev] at h
  split at h
  ·rename_i s hs
   have hx := hρ x
   rw [hs] at hx
   exact range_out hc hx h.1 h.2
  ·exact h.elim
 case next it isS =>
  cases isS with
  | false => exact h.elim
  | true =>
   simp only [nev] at h
   split at h
   ·rename_i b hb
    have hx := hρ it
    rw [hb] at hx
    simp only [R] at hx
    split at h
    ·rename_i s pos hg
     simp only [execOp, hx]
     exact next_out hc hg h.1 h.2.1 h.2.2
    ·exact h.elim
   ·exact h.elim
 case makeSlice T l c =>
  simp only [nev] at h
  split at h
  ·rename_i n m el g sz by_ hn hm hT hB
   have hl := hρ l
   have hc' := hρ c
   rw [hn] at hl
   rw [hm] at hc'
   simp only [R] at hl hc'
   split at h
   ·rename_i z hz
    obtain ⟨⟨h1, h2, h3, h4, h5, h6⟩, h⟩ := h
    obtain ⟨us, u1, u2, u3⟩ := makeSlice_run (P := P) (M := M) (w := w) hT hB hz h1 h2 h3 h4 h5 h6
    have hnl : n.toNat ≤ lim := by
     have : m * 1 ≤ m * by_ := Int.mul_le_mul_of_nonneg_left (by omega) (by omega)
     unfold capB at h3; unfold lim; omega
    have hrun : (execOp e ⟨dst, .makeSlice T l c, ty, pos, after, guard⟩).run P w = .ok (.value (.slice (some ⟨w.heap.size, 0, none⟩) n.toNat m.toNat)) (w.alloc (.cells (List.toArray us) el (0, 0))) := by
     simp only [execOp, hl.1, hc'.1]
     exact lift_value u3
    cases imm with
    | true =>
     obtain ⟨rfl, h⟩ := h
     obtain ⟨b1, b2, b3⟩ := hc.newBox (o := .cells (List.toArray us) el (0, 0)) (x := .tail sz 0 m.toNat) ⟨⟨_, el, alloc_heap_new w _, by simpa using u1, Nat.zero_le _⟩, fun o _ => hc.mem_none o⟩
     refine NOut.value _ _ _ _ _ hrun b2 b1 ?_ (h _ b3)
     simp only [R, TokR]
     exact ⟨_, _, rfl, by simp, by simp, by simp, rfl, rfl⟩
    | false =>
     obtain ⟨b1, b2, b3⟩ := hc.newBox (o := .cells (List.toArray us) el (0, 0)) (x := .arr sz (List.replicate n.toNat z) m.toNat) ⟨⟨us, el, alloc_heap_new w _, u1, by simp; omega, (by
       rw [List.length_replicate, ← zrep_flat]
       have e1 : zrep z n.toNat = (zrep z m.toNat).take (n.toNat * sz) := by
         rw [zrep_flat, zrep_flat, ← h4]
         have : m.toNat = n.toNat + (m.toNat - n.toNat) := by omega
         rw [this, ← List.replicate_append_replicate, List.flatten_append, List.take_left' (by simp)]
       rw [e1]
       exact u2.take _), fun r hr => by
         obtain ⟨_, rfl⟩ := List.mem_replicate.1 hr
         refine ⟨h4, ?_⟩
         obtain ⟨_, _, _, hz3⟩ := run_zero (P := P) (M := M) (w := w) hz
         exact hz3⟩, hc.mem_none⟩
     refine NOut.value _ _ _ _ _ hrun b2 b1 ?_ (h _ b3)
     simp only [R]
   ·exact h.elim
  ·exact h.elim
 case call c =>
  obtain ⟨callee, xs, ts⟩ := c
  cases callee with
  | value f =>
   simp only [nev] at h
   split at h
   ·rename_i fn fs cs hf
    obtain ⟨hy, h⟩ := h
    have hx := hρ f
    rw [hf] at hx
    simp only [R] at hx
    obtain ⟨vs, us, he, hv, hu⟩ := hx
    have hargs : RAll M (fs ++ xs.toList.map ρ ++ cs) (vs ++ xs.toList.map e ++ us) := (hv.append (RAll_map hρ _)).append hu
    refine call_out hc hargs (fun g hg => ?_) (fun l hl => ?_) (h.elim (fun ⟨d, h1, h2⟩ => (h1.at σ).mono fun r σ' ⟨e1, e2⟩ => by subst e1; subst e2; exact h2) id)
    ·subst hg
     simp only [execOp, resolve, he, Deferred.ofValue, Sem.run_bind, Sem.run_pure, Result.andThen_ok, invoke, map_toArray e]
     simp
    ·subst hl
     obtain rfl := hy rfl
     have hu0 : us = [] := by cases us with | nil => rfl | cons _ _ => simp [RAll] at hu
     subst hu0
     simp only [execOp, resolve, he, Deferred.ofValue, Sem.run_bind, Sem.run_pure, Result.andThen_ok, invoke, map_toArray e]
     simp
   ·exact h.elim
  | invoke r m => exact h.elim
  | builtin b =>
   cases b <;> try exact h.elim
   case append =>
    simp only [nev] at h
    split at h
    ·rename_i s x hsx
     have hall := RAll_map hρ xs.toList
     rw [hsx] at hall
     cases hxe : xs.toList.map e with
     | nil => rw [hxe] at hall; simp [RAll] at hall
     | cons sv l =>
      cases l with
      | nil => rw [hxe] at hall; simp [RAll] at hall
      | cons xv l =>
       cases l with
       | cons _ _ => rw [hxe] at hall; simp [RAll] at hall
       | nil =>
        rw [hxe] at hall
        simp only [RAll, and_true] at hall
        have := show NOut P M w σ (builtin .append ts ty (xs.map fun | .const _ => true | _ => false) #[sv, xv]) K X by
         cases imm with
         | true => exact h.elim (fun h => appM_out (P := P) (X := X) hc hall.1 hall.2 h) (fun h => appZ_out (P := P) (X := X) hc hall.1 hall.2 h)
         | false => exact app_out (P := P) (X := X) hc hall.1 hall.2 h
        have er : execOp e ⟨dst, .call ⟨.builtin .append, xs, ts⟩, ty, pos, after, guard⟩ = builtin .append ts ty (xs.map fun | .const _ => true | _ => false) #[sv, xv] := by
         have e2 : xs.map e = #[sv, xv] := by rw [map_toArray, hxe]
         simp only [execOp, resolve, e2]
         rfl
        rw [er]
        exact this
    ·exact h.elim
   case copy =>
    simp only [nev] at h
    split at h
    ·rename_i s x hsx
     have hall := RAll_map hρ xs.toList
     rw [hsx] at hall
     cases hxe : xs.toList.map e with
     | nil => rw [hxe] at hall; simp [RAll] at hall
     | cons sv l =>
      cases l with
      | nil => rw [hxe] at hall; simp [RAll] at hall
      | cons xv l =>
       cases l with
       | cons _ _ => rw [hxe] at hall; simp [RAll] at hall
       | nil =>
        rw [hxe] at hall
        simp only [RAll, and_true] at hall
        have := show NOut P M w σ (builtin .copy ts ty (xs.map fun | .const _ => true | _ => false) #[sv, xv]) K X from copy_out (P := P) (X := X) hc hall.1 hall.2 h
        have er : execOp e ⟨dst, .call ⟨.builtin .copy, xs, ts⟩, ty, pos, after, guard⟩ = builtin .copy ts ty (xs.map fun | .const _ => true | _ => false) #[sv, xv] := by
         have e2 : xs.map e = #[sv, xv] := by rw [map_toArray, hxe]
         simp only [execOp, resolve, e2]
         rfl
        rw [er]
        exact this
    ·exact h.elim
 case panic x =>
  simp only [nev] at h
  split at h
  ·rename_i t d hx
   have hr := hρ x
   rw [hx] at hr
   have hr' := hr
   simp only [R] at hr'
   obtain ⟨u, he, hu⟩ := hr'
   refine NOut.pan M w σ _ (e x) ?_ (Step.refl _ _ _) hc hr h
   simp only [execOp, he, Instr.panic, Sem.run_bind, run_goPanic, Result.andThen_halt]
  ·exact h.elim
/-- What is done, said of the machine's operation. -/
theorem wpIn_of_out {r : Option Nat} {o : Oper} {a : Act} {nx : Act → World → Prop} {Q : Exit → Act → World → Prop} (hd : ∀ c, o.op ≠ .defer c) (h : NOut P M w σ (execOp a.eval o) K X)
  (hK : ∀ M' w' σ' d v, Step M w σ M' w' σ' → Conc M' w' σ' → R M' d v → K d σ' → nx (a.put o.dst v) w')
  (hX : ∀ M' w' σ' d v, Step M w σ M' w' σ' → Conc M' w' σ' → R M' d v → X d σ' → Q (.panic [{ v, recovered := false }]) a w') : o.wpIn (WF r) 0 P a w nx Q := by
 have post : ∀ (e : Ending) (w' : World), (∃ M' σ' r, Step M w σ M' w' σ' ∧ Conc M' w' σ' ∧ ResR M' r e ∧ (match r with | .ret d => K d σ' | .pan d => X d σ')) →
   (match (motive := Ending → World → Prop) e, w' with
   | .returned v, w'' => nx (a.put o.dst v) w''
   | .panicked chain, w'' => Q (.panic chain) a w''
   | .outgrown, _ => LetsOut Q) := by
  rintro e w' ⟨M', σ', r, h1, h2, h3, h4⟩
  cases r with
  | ret d =>
   cases e with
   | returned v => exact hK M' w' σ' d v h1 h2 h3 h4
   | panicked c => exact h3.elim
   | outgrown => exact h3.elim
  | pan d =>
   cases e with
   | returned v => exact h3.elim
   | outgrown => exact h3.elim
   | panicked c =>
    cases c with
    | nil => exact h3.elim
    | cons c cs =>
     cases cs with
     | cons _ _ => exact h3.elim
     | nil =>
      obtain ⟨v, rfl, h3⟩ := h3
      exact hX M' w' σ' d v h1 h2 h3 h4
 refine ⟨fun _ _ => trivial, ?_⟩
 rw [Oper.semAt_eq _ _ _ hd]
 cases h with
 | value M' w' σ' d v h st c r k => rw [h]; exact hK M' w' σ' d v st c r k
 | skip M' w' σ' h st c k => rw [h]; exact hK M' w' σ' _ undef st c (by simp only [R]) k
 | pan M' w' σ' d v h st c r k => rw [h]; exact hX M' w' σ' d v st c r k
 | enter g args h hc =>
  rw [h]
  exact ⟨fun hh => by simp [Fence.wide] at hh, hc.mono post⟩
 | round l f tmps assign body h hc =>
  rw [h]
  exact ⟨fun hh => by simp [Fence.wide] at hh, hc.mono post⟩
end
end Go.Proofs.YtfjnohmdilmfhaaGreatDoor
/- Own layer, part 13: regions of operations, in the text's order and in whatever order. -/
namespace Go.Proofs.YtfjnohmdilmfhaaGreatDoor
open Go Go.RowKit
set_option linter.unusedSimpArgs false
set_option linter.unusedVariables false
def quiet : Op → Bool
 | .move _ | .assign _ | .pick .. | .binOp .. | .unOp .. | .convert .. | .field .. | .fieldAddr .. | .indexAddr .. | .index .. | .load .. | .lookup .. | .extract .. | .build .. | .makeInterface .. | .makeFunc .. | .slice .. | .nilCheck _ | .sliceToArrayPointer .. => true
 | .call { callee := .builtin .len, .. } | .call { callee := .builtin .cap, .. } | .call { callee := .builtin .min, .. } | .call { callee := .builtin .max, .. } => true
 | _ => false
def gtmp (ops : Array Oper) (j : Nat) : Option Nat := (ops[j]?).bind (·.dst)
/-- Where the results of the operations that guards name are put. -/
def look : List (Nat × Nat) → Nat → Option Nat
 | [], _ => none
 | (i, t) :: l, j => if j = i then some t else look l j
def gtOK (ops : Array Oper) (gt : List (Nat × Nat)) : Bool := gt.all fun x => gtmp ops x.1 == some x.2
def GT (ops : Array Oper) (gt : List (Nat × Nat)) : Prop := ∀ j t, look gt j = some t → gtmp ops j = some t
theorem GT.of {ops : Array Oper} : ∀ {gt : List (Nat × Nat)}, gtOK ops gt = true → GT ops gt
 | [], _, _, _, h => by simp [look] at h
 | (i, t) :: gt, hok, j, u, h => by
  simp only [gtOK, List.all_cons, Bool.and_eq_true, beq_iff_eq] at hok
  unfold look at h
  split at h
  ·rename_i e; cases h; rw [e]; exact hok.1
  ·exact GT.of hok.2 j u h
def gval (d : D) (want : Bool) : Option Bool :=
 match d with
 | .bool b => some (b == want)
 | .cnd g d => bif g then (match d with | .bool b => some (b == want) | _ => none) else some false
 | _ => none
theorem cond_some (g a : Bool) : (bif g then some a else some false) = some (g && a) := by cases g <;> rfl
def opc (env : Env) (x : Operand) : D := (opd env x).core
def cgs (env : Env) (op : Op) : Bool := op.operands.toList.all fun x => (opd env x).cg
/-- An operation that a guard has let through. -/
def gev (P : Program) (σ : Store) (env : Env) (op : Op) : PD :=
 match op with
 | .pick c a b => ((opd env c).cg = true ∧ (qpick (opc env c) (opd env a) (opd env b)).1, (qpick (opc env c) (opd env a) (opd env b)).2)
 | op => (cgs env op = true ∧ (qev P σ (opc env) op).1, (qev P σ (opc env) op).2)
def qv (P : Program) (gt : List (Nat × Nat)) (o : Oper) (env : Env) (σ : Store) : PD :=
 match o.guard with
 | none => qev P σ (opd env) o.op
 | some (j, want) => match (look gt j).bind fun t => gval (env t) want with
  | some g => ((g = true → (gev P σ env o.op).1), .cnd g (gev P σ env o.op).2)
  | none => PD.no
def PCallOp (P : Program) (ρ : Operand → D) (op : Op) (d : D) : Prop :=
 match op with
 | .call { callee := .value f, args := xs, .. } => match ρ f with
  | .fn fn fs cs => (isYield fn = true → cs = []) ∧ PCall P fn (fs ++ xs.toList.map ρ ++ cs) d
  | _ => False
 | _ => False
def isImm (imm : List Nat) (dst : Option Nat) : Bool := match dst with
 | some d => imm.contains d
 | none => false
def nv (P : Program) (imm : List Nat) (gt : List (Nat × Nat)) (o : Oper) (env : Env) (σ : Store) (κ X : D → Store → Prop) : Prop :=
 match o.guard with
 | none => nev P (isImm imm o.dst) σ (opd env) κ X o.op
 | some (j, want) => match (look gt j).bind fun t => gval (env t) want with
  | some g => (∃ d, (g = true → cgs env o.op = true ∧ PCallOp P (opc env) o.op d) ∧ κ (.cnd g d) σ) ∨
    ((g = true → cgs env o.op = true ∧ nev P (isImm imm o.dst) σ (opc env) κ X o.op) ∧ (g = false → κ (.v undef) σ))
  | none => False
def vop (P : Program) (imm : List Nat) (gt : List (Nat × Nat)) (o : Oper) (env : Env) (σ : Store) (κ : Env → Store → Prop) (X : D → Store → Prop) : Prop :=
 bif quiet o.op then (qv P gt o env σ).1 ∧ κ (env.put o.dst (qv P gt o env σ).2) σ
 else nv P imm gt o env σ (fun d σ' => κ (env.put o.dst d) σ') X
def vops (P : Program) (imm : List Nat) (gt : List (Nat × Nat)) (κ : Env → Store → Prop) (X : D → Store → Prop) : List Oper → Env → Store → Prop
 | [], env, σ => κ env σ
 | o :: os, env, σ => vop P imm gt o env σ (fun env' σ' => vops P imm gt κ X os env' σ') X
def Box.isTail : Box → Bool
 | .tail .. => true
 | _ => false
/-- What may be read stays (tails of rows are not read). -/
def Ext (σ σ' : Store) : Prop := ∀ b x, σ.get b = some x → x.isTail = true ∨ σ'.get b = some x
/-- A call that is told to be one that only computes. -/
def softC (soft : List Nat) (o : Oper) : Bool := match o.op, o.dst with
 | .call { callee := .value _, .. }, some t => soft.contains t
 | _, _ => false
/-- A call's result, when it is d if it is made. -/
def pv (P : Program) (gt : List (Nat × Nat)) (o : Oper) (env : Env) (d : D) : PD :=
 match o.guard with
 | none => (PCallOp P (opd env) o.op d, d)
 | some (j, want) => match (look gt j).bind fun t => gval (env t) want with
  | some g => ((g = true → cgs env o.op = true ∧ PCallOp P (opc env) o.op d), .cnd g d)
  | none => PD.no
/-- Operations that write to what is there. -/
def isSt : Op → Bool
 | .store .. | .mapUpdate .. | .insert .. => true
 | _ => false
/-- append and copy. -/
def isAp : Op → Bool
 | .call { callee := .builtin .append, .. } | .call { callee := .builtin .copy, .. } => true
 | _ => false
/-- A call that is told to write to what is there already (its place, and a million, among the soft ones). -/
def wcs (soft : List Nat) (t : Nat) : Bool := soft.contains (1000000 + t)
def wCall (soft : List Nat) (o : Oper) : Bool := match o.op, o.dst with
 | .call { callee := .value _, .. }, some t => wcs soft t
 | _, _ => false
/-- Operations that write to what is there; an append, if it is told to be one. -/
def isW (soft : List Nat) (o : Oper) : Bool := isSt o.op || (isAp o.op && (match o.dst with | some t => soft.contains t | none => true)) || wCall soft o
/-- Quiet operations that read the store. -/
def rdSt : Op → Bool
 | .load .. | .lookup .. | .convert .. => true
 | _ => false
/-- Whatever reads the store is bound to be done before. -/
def soloR (ops : Array Oper) (j : Nat) (o : Oper) : Bool := (List.range ops.size).all fun i => i == j || (match ops[i]? with | some p => !rdSt p.op | none => true) || o.after.any (fun e => Region.binds .any e && e.on == i)
def stOK (soft : List Nat) (ops : Array Oper) : Bool := (List.range ops.size).all fun j => match ops[j]? with
 | some o => !isW soft o || soloR ops j o
 | none => true
def vdr (P : Program) (imm soft : List Nat) (gt : List (Nat × Nat)) (κ : Env → Store → Prop) (X : D → Store → Prop) : List Oper → Env → Store → Prop
 | [], env, σ => κ env σ
 | o :: os, env, σ => bif softC soft o then ∃ d, (pv P gt o env d).1 ∧ vdr P imm soft gt κ X os (env.put o.dst (pv P gt o env d).2) σ
   else vop P imm gt o env σ (fun env' σ' => (isW soft o = true ∨ Ext σ σ') ∧ vdr P imm soft gt κ X os env' σ') X
def okOp (nt : Nat) (o : Oper) : Bool := o.dst.all (· < nt) && (match o.op with | .defer _ => false | _ => true)
def rgOK (nt : Nat) (ops : Array Oper) (gt : List (Nat × Nat)) : Bool := ops.toList.all (okOp nt) && gtOK ops gt
def chk (soft : List Nat) (ops : Array Oper) : List Nat → Array Bool → Bool
 | [], listed => (Region.ready .any ops listed).isEmpty
 | i :: is, listed => (Region.ready .any ops listed).contains i && (match ops[i]? with
     | some o => ((quiet o.op || softC soft o) && Region.free .any ops listed i) || Region.ready .any ops listed == [i]
     | none => false) && chk soft ops is (listed.setIfInBounds i true)
def drOK (nt : Nat) (soft : List Nat) (ops : Array Oper) (gt : List (Nat × Nat)) (perm : List Nat) : Bool := rgOK nt ops gt && stOK soft ops && perm.length == ops.size && chk soft ops perm (Array.replicate ops.size false)
section
variable {P : Program} {M : Mem} {w : World} {σ : Store} {r : Option Nat} {nt : Nat} {ops : Array Oper} {imm : List Nat} {gt : List (Nat × Nat)}
/-! ### Guards -/
theorem getD_bool {tmps : Array Value} {t : Nat} {b : Bool} (h : tmps.getD t undef = .bool b) : tmps[t]? = some (.bool b) := by
 rw [Array.getD_eq_getD_getElem?] at h
 cases e : tmps[t]? with
 | none => rw [e] at h; simp [undef] at h
 | some v => rw [e] at h; simp at h; rw [h]
theorem wanted_of (hgt : GT ops gt) {env : Env} {a : Act} (he : EnvR M nt env a) {o : Oper} {j : Nat} {want g : Bool} (hg : o.guard = some (j, want)) (h : ((look gt j).bind fun t => gval (env t) want) = some g) :
  Region.wanted o (yielded ops a.tmps) = g := by
 simp only [Option.bind_eq_some_iff] at h
 obtain ⟨t, ht, hv⟩ := h
 replace ht := hgt _ _ ht
 unfold gtmp at ht
 simp only [Region.wanted, hg, yielded, ht, Option.bind_some]
 have hr := he.2 t
 unfold gval at hv
 split at hv
 ·rename_i b hb
  rw [hb] at hr
  simp only [R] at hr
  rw [getD_bool hr]
  cases hv
  cases b <;> cases want <;> rfl
 ·rename_i g' d hb
  rw [hb] at hr
  simp only [R] at hr
  cases g'
  ·have h0 := hr.2 rfl
   cases hv
   cases e : a.tmps[t]? with
   | none => simp
   | some v =>
    rw [Array.getD_eq_getD_getElem?, e] at h0
    simp at h0
    subst h0
    simp [undef]
  ·simp only [cond_true] at hv
   split at hv
   ·rename_i b
    have h1 := getD_bool (hr.1 rfl)
    rw [h1]
    cases hv
    cases b <;> cases want <;> rfl
   ·cases hv
 ·cases hv
end
end Go.Proofs.YtfjnohmdilmfhaaGreatDoor
/- Own layer, part 14: regions are right, in the text's order. -/
namespace Go.Proofs.YtfjnohmdilmfhaaGreatDoor
open Go Go.RowKit
set_option linter.unusedSimpArgs false
set_option linter.unusedVariables false
/-- An environment cut down to some places. -/
def prune (keep : List Nat) (env : Env) : Env := mk (keep.map fun i => (i, env i))
section
variable {P : Program} {M : Mem} {w : World} {σ : Store} {r : Option Nat} {nt : Nat} {ops : Array Oper} {imm : List Nat} {gt : List (Nat × Nat)}
theorem mk_R {M : Mem} {a : Act} {env : Env} (h : ∀ i, R M (env i) (a.tmps.getD i undef)) : ∀ (keep : List Nat) (i : Nat), R M (mk (keep.map fun i => (i, env i)) i) (a.tmps.getD i undef)
 | [], i => by simp only [List.map_nil, mk, R]
 | k :: ks, i => by
  simp only [List.map_cons, mk]
  split
  ·rename_i e; subst e; exact h _
  ·exact mk_R h ks i
theorem EnvR.prune {env : Env} {a : Act} (h : EnvR M nt env a) (keep : List Nat) : EnvR M nt (prune keep env) a := ⟨h.1, mk_R h.2 keep⟩
theorem opc_R {env : Env} {a : Act} (he : EnvR M nt env a) (op : Op) (h : cgs env op = true) : ∀ x ∈ op.operands, R M (opc env x) (a.eval x) := by
 intro x hx
 unfold cgs at h
 rw [List.all_eq_true] at h
 exact (opd_R he x).core (h x (by simpa using hx))
/-- What an operation reads. -/
theorem qev_congr {ρ ρ' : Operand → D} (op : Op) (h : ∀ x ∈ op.operands, ρ x = ρ' x) : qev P σ ρ op = qev P σ ρ' op := by
 cases op with
 | move x | assign x => simp only [qev, h x (by simp [Op.operands])]
 | unOp _ _ x | convert _ _ x | field _ x _ | fieldAddr _ x _ | load _ x | extract x _ | makeInterface _ x | nilCheck x | sliceToArrayPointer _ x => simp only [qev, h x (by simp [Op.operands])]
 | pick c a b => simp only [qev, h c (by simp [Op.operands]), h a (by simp [Op.operands]), h b (by simp [Op.operands])]
 | binOp _ _ x y _ => simp only [qev, h x (by simp [Op.operands]), h y (by simp [Op.operands])]
 | indexAddr _ x y | index _ x y => simp only [qev, h x (by simp [Op.operands]), h y (by simp [Op.operands])]
 | build T ps =>
  have : (ps.toList.map fun p => (p.1, ρ p.2)) = ps.toList.map fun p => (p.1, ρ' p.2) := List.map_congr_left fun p hp => by
   rw [h p.2 (by simp only [Op.operands, List.mem_toArray, List.mem_map]; exact ⟨p, hp, rfl⟩)]
  simp only [qev, this]
 | makeFunc f fs cs =>
  have h1 : fs.toList.map ρ = fs.toList.map ρ' := List.map_congr_left fun x hx => h x (by simp only [Op.operands, Array.mem_append]; exact .inl (by simpa using hx))
  have h2 : cs.toList.map ρ = cs.toList.map ρ' := List.map_congr_left fun x hx => h x (by simp only [Op.operands, Array.mem_append]; exact .inr (by simpa using hx))
  simp only [qev, h1, h2]
 | slice T x lo hi mx =>
  have h1 := h x (by simp [Op.operands])
  have h2 : lo.map ρ = lo.map ρ' := by cases lo with | none => rfl | some y => simp only [Option.map_some]; rw [h y (by simp [Op.operands])]
  have h3 : hi.map ρ = hi.map ρ' := by cases hi with | none => rfl | some y => simp only [Option.map_some]; rw [h y (by simp [Op.operands])]
  have h4 : mx.map ρ = mx.map ρ' := by cases mx with | none => rfl | some y => simp only [Option.map_some]; rw [h y (by simp [Op.operands])]
  simp only [qev, h1, h2, h3, h4]
 | call c =>
  obtain ⟨callee, xs, ts⟩ := c
  cases callee with
  | builtin b =>
   have h1 : xs.toList.map ρ = xs.toList.map ρ' := List.map_congr_left fun x hx => h x (by simp only [Op.operands, Call.operands, Array.mem_append]; exact .inr (by simpa using hx))
   simp only [qev, h1]
  | value f => rfl
  | invoke f m => rfl
 | lookup T x y ok => simp only [qev, h x (by simp [Op.operands]), h y (by simp [Op.operands])]
 | _ => rfl
theorem qev_sound' (hc : Conc M w σ) {ρ : Operand → D} {e : Operand → Value} (o : Oper) (hρ : ∀ x ∈ o.op.operands, R M (ρ x) (e x)) (h : (qev P σ ρ o.op).1) :
  ∃ v, (execOp e o).run P w = .ok (.value v) w ∧ R M (qev P σ ρ o.op).2 v := by
 haveI : DecidablePred fun x => x ∈ o.op.operands := fun x => Classical.propDecidable _
 have hcg : qev P σ ρ o.op = qev P σ (fun x => if x ∈ o.op.operands then ρ x else .top) o.op := qev_congr o.op fun x hx => (if_pos hx).symm
 rw [hcg] at h ⊢
 refine qev_sound hc (fun x => ?_) o h
 split
 ·rename_i hx; exact hρ x hx
 ·simp only [R]
theorem quiet_not_defer {o : Oper} (h : okOp nt o = true) : ∀ c, o.op ≠ .defer c := by
 intro c hc
 simp [okOp, hc] at h
theorem okOp_dst {o : Oper} (h : okOp nt o = true) : o.dst.all (· < nt) = true := by
 unfold okOp at h
 simp only [Bool.and_eq_true] at h
 exact h.1
def opGoal (P : Program) (r : Option Nat) (ops : Array Oper) (o : Oper) (Q : Exit → Act → World → Prop) (nx : Act → World → Prop) (a : Act) (w : World) : Prop :=
 if Region.wanted o (yielded ops a.tmps) then o.wpIn (WF r) 0 P a w nx Q else (∀ f, o.about P w a.eval = some f → (WF r).fn f) ∧ nx (a.put o.dst undef) w
theorem nev_congr {ρ ρ' : Operand → D} {b : Bool} {K X : D → Store → Prop} (op : Op) (h : ∀ x ∈ op.operands, ρ x = ρ' x) : nev P b σ ρ K X op = nev P b σ ρ' K X op := by
 cases op with
 | alloc T => rfl
 | box _ x | range _ x | panic x => simp only [nev, h x (by simp [Op.operands])]
 | next x b =>
  cases b with
  | true => simp only [nev, h x (by simp [Op.operands])]
  | false => rfl
 | mapUpdate _ x y z | insert _ x y z => simp only [nev, h x (by simp [Op.operands]), h y (by simp [Op.operands]), h z (by simp [Op.operands])]
 | makeMap T r => cases r <;> rfl
 | store _ x y | makeSlice _ x y => simp only [nev, h x (by simp [Op.operands]), h y (by simp [Op.operands])]
 | buildSlice T n ps =>
  have : (ps.toList.map fun p => (p.1, ρ p.2)) = ps.toList.map fun p => (p.1, ρ' p.2) := List.map_congr_left fun p hp => by
   rw [h p.2 (by simp only [Op.operands, List.mem_toArray, List.mem_map]; exact ⟨p, hp, rfl⟩)]
  simp only [nev, this]
 | call c =>
  obtain ⟨callee, xs, ts⟩ := c
  cases callee with
  | builtin b =>
   have h1 : xs.toList.map ρ = xs.toList.map ρ' := List.map_congr_left fun x hx => h x (by simp only [Op.operands, Call.operands, Array.mem_append]; exact .inr (by simpa using hx))
   cases b <;> first | rfl | simp only [nev, h1]
  | value f =>
   have h1 : xs.toList.map ρ = xs.toList.map ρ' := List.map_congr_left fun x hx => h x (by simp only [Op.operands, Call.operands, Array.mem_append]; exact .inr (by simpa using hx))
   simp only [nev, h1, h f (by simp [Op.operands, Call.operands])]
  | invoke f m => rfl
 | _ => rfl
theorem nev_sound' (hc : Conc M w σ) {b : Bool} {ρ : Operand → D} {e : Operand → Value} {K X : D → Store → Prop} (o : Oper) (hρ : ∀ x ∈ o.op.operands, R M (ρ x) (e x)) (h : nev P b σ ρ K X o.op) : NOut P M w σ (execOp e o) K X := by
 haveI : DecidablePred fun x => x ∈ o.op.operands := fun x => Classical.propDecidable _
 have hcg : nev P b σ ρ K X o.op = nev P b σ (fun x => if x ∈ o.op.operands then ρ x else .top) K X o.op := nev_congr o.op fun x hx => (if_pos hx).symm
 rw [hcg] at h
 refine nev_sound hc (fun x => ?_) o h
 split
 ·rename_i hx; exact hρ x hx
 ·simp only [R]
theorem gev_sound (hc : Conc M w σ) {env : Env} {a : Act} (he : EnvR M nt env a) (o : Oper) (h : (gev P σ env o.op).1) :
  ∃ v, (execOp a.eval o).run P w = .ok (.value v) w ∧ R M (gev P σ env o.op).2 v := by
 unfold gev at h ⊢
 split at h
 ·rename_i c x y hop
  have hc1 := (opd_R he c).core h.1
  obtain ⟨v, h1, h2⟩ := pick_sound (P := P) (w := w) h.2 hc1 (opd_R he x) (opd_R he y)
  refine ⟨v, ?_, h2⟩
  rw [← h1]
  unfold execOp
  rw [hop]
 ·exact qev_sound' (P := P) hc o (opc_R he o.op h.1) h.2
theorem R_cnd_true {d : D} {v : Value} (h : R M d v) : R M (.cnd true d) v := by simp only [R]; simp [h]
theorem R_cnd_false {d : D} : R M (.cnd false d) undef := by simp only [R]; simp
/-- ONE OPERATION. -/
theorem vop_sound (hgt : GT ops gt) (hc : Conc M w σ) {env : Env} {a : Act} (he : EnvR M nt env a) {o : Oper} (hok : okOp nt o = true) {κ : Env → Store → Prop} {X : D → Store → Prop} (h : vop P imm gt o env σ κ X)
  {nx : Act → World → Prop} {Q : Exit → Act → World → Prop}
  (hK : ∀ M' w' σ' env' a', Step M w σ M' w' σ' → Conc M' w' σ' → EnvR M' nt env' a' → a'.defers = a.defers → κ env' σ' → nx a' w')
  (hX : ∀ M' w' σ' d v, Step M w σ M' w' σ' → Conc M' w' σ' → R M' d v → X d σ' → Q (.panic [{ v, recovered := false }]) a w') : opGoal P r ops o Q nx a w := by
 have hd := quiet_not_defer hok
 have hdst := okOp_dst hok
 have hdef : ∀ v, (a.put o.dst v).defers = a.defers := fun v => by cases o.dst <;> rfl
 unfold opGoal
 unfold vop at h
 cases hq : quiet o.op with
 | true =>
  simp only [hq, cond_true] at h
  obtain ⟨h1, h2⟩ := h
  unfold qv at h1 h2
  split at h1
  ·rename_i hg
   obtain ⟨v, r1, r2⟩ := qev_sound hc (opd_R he) o h1
   rw [if_pos (by simp [Region.wanted, hg])]
   refine wpIn_of_out (K := fun d σ' => d = (qev P σ (opd env) o.op).2 ∧ σ' = σ) (X := fun _ _ => False) hd (.value M w σ _ v r1 (Step.refl _ _ _) hc r2 ⟨rfl, rfl⟩) ?_ (fun _ _ _ _ _ _ _ _ hx => hx.elim)
   rintro M' w' σ' d v' s1 c1 r3 ⟨rfl, rfl⟩
   simp only [hg] at h2
   exact hK M' w' _ _ _ s1 c1 ((he.mono s1.le).put hdst r3) (hdef _) h2
  ·rename_i j want hg
   split at h1
   ·rename_i g hgv
    have hw := wanted_of hgt he hg hgv
    simp only [hg, hgv] at h2
    rw [hw]
    cases g with
    | true =>
     obtain ⟨v, r1, r2⟩ := gev_sound (P := P) hc he o (h1 rfl)
     rw [if_pos rfl]
     refine wpIn_of_out (K := fun d σ' => d = (gev P σ env o.op).2 ∧ σ' = σ) (X := fun _ _ => False) hd (.value M w σ _ v r1 (Step.refl _ _ _) hc r2 ⟨rfl, rfl⟩) ?_ (fun _ _ _ _ _ _ _ _ hx => hx.elim)
     rintro M' w' σ' d v' s1 c1 r3 ⟨rfl, rfl⟩
     exact hK M' w' _ _ _ s1 c1 ((he.mono s1.le).put hdst (R_cnd_true r3)) (hdef _) h2
    | false =>
     rw [if_neg (by simp)]
     exact ⟨fun _ _ => trivial, hK M w σ _ _ (Step.refl _ _ _) hc (he.put hdst R_cnd_false) (hdef _) h2⟩
   ·exact h1.elim
 | false =>
  simp only [hq, cond_false] at h
  unfold nv at h
  split at h
  ·rename_i hg
   have out := nev_sound hc (opd_R he) o h
   rw [if_pos (by simp [Region.wanted, hg])]
   exact wpIn_of_out hd out (fun M' w' σ' d v s1 c1 r3 hk => hK M' w' σ' _ _ s1 c1 ((he.mono s1.le).put hdst r3) (hdef _) hk) hX
  ·rename_i j want hg
   split at h
   ·rename_i g hgv
    have hw := wanted_of hgt he hg hgv
    rw [hw]
    rcases h with ⟨d, h1, h2⟩ | ⟨h1, h2⟩
    ·cases g with
     | true =>
      obtain ⟨h3, h4⟩ := h1 rfl
      rw [if_pos rfl]
      have out : NOut P M w σ (execOp a.eval o) (fun d' σ' => d' = d ∧ σ' = σ) (fun _ _ => False) := by
       refine nev_sound' (b := false) hc o (opc_R he o.op h3) ?_
       unfold PCallOp at h4
       split at h4
       ·rename_i f xs ts hop
        split at h4
        ·rename_i fn fs cs hf
         rw [hop]
         simp only [nev, hf]
         exact ⟨h4.1, .inl ⟨d, h4.2, by simp⟩⟩
        ·exact h4.elim
       ·exact h4.elim
      refine wpIn_of_out hd out ?_ (fun _ _ _ _ _ _ _ _ hx => hx.elim)
      rintro M' w' σ' d' v' s1 c1 r3 ⟨rfl, rfl⟩
      exact hK M' w' _ _ _ s1 c1 ((he.mono s1.le).put hdst (R_cnd_true r3)) (hdef _) h2
     | false =>
      rw [if_neg (by simp)]
      exact ⟨fun _ _ => trivial, hK M w σ _ _ (Step.refl _ _ _) hc (he.put hdst R_cnd_false) (hdef _) h2⟩
    ·cases g with
     | true =>
      obtain ⟨h3, h4⟩ := h1 rfl
      rw [if_pos rfl]
      exact wpIn_of_out hd (nev_sound' hc o (opc_R he o.op h3) h4) (fun M' w' σ' d v s1 c1 r3 hk => hK M' w' σ' _ _ s1 c1 ((he.mono s1.le).put hdst r3) (hdef _) hk) hX
     | false =>
      rw [if_neg (by simp)]
      exact ⟨fun _ _ => trivial, hK M w σ _ _ (Step.refl _ _ _) hc (he.put hdst (by simp only [R])) (hdef _) (h2 rfl)⟩
   ·exact h.elim
theorem vops_sound (hgt : GT ops gt) {Q : AE → Env → Store → Prop} (keep : List Nat) {M0 : Mem} {w0 : World} {σ0 : Store} {a0 : Act} {B : Nat × List Deferred} : ∀ (l : List Oper) (k : Nat), (∀ j, l[j]? = ops[k + j]?) → l.all (okOp nt) = true → ∀ (env : Env) (σ : Store) (M : Mem) (w : World) (a : Act),
  vops P imm gt (fun env σ => Q .normal (prune keep env) σ) (fun d σ => Q (.pan d) (fun _ => .top) σ) l env σ →
  Conc M w σ → EnvR M nt env a → DefOK B σ0 w0 a0.defers → a.defers = a0.defers → Step M0 w0 σ0 M w σ → wpOpsIn (WF r) 0 P ops (rgPost M0 w0 σ0 nt B Q) (List.range' k l.length) a w
 | [], k, _, _, env, σ, M, w, a, h, hc, he, hd, hda, hs => by
  simp only [List.length_nil, List.range'_zero, wpOpsIn]
  exact ⟨M, _, σ, .normal, hs, hc, he.prune keep, hda ▸ hd.step hs, trivial, h⟩
 | o :: l, k, hl, hok, env, σ, M, w, a, h, hc, he, hd, hda, hs => by
  have h0 : ops[k]? = some o := by simpa using (hl 0).symm
  simp only [List.all_cons, Bool.and_eq_true] at hok
  simp only [List.length_cons, List.range'_succ]
  rw [wpOpsIn_cons]
  unfold wpOpIn
  simp only [h0]
  refine vop_sound (r := r) hgt hc he hok.1 h ?_ ?_
  ·intro M' w' σ' env' a' s1 c1 e1 d1 k1
   exact vops_sound hgt keep l (k + 1) (fun j => by have := hl (j + 1); simpa [Nat.add_assoc, Nat.add_comm 1 j] using this) hok.2 env' σ' M' w' a' k1 c1 e1 hd (d1.trans hda) (hs.trans s1)
  ·intro M' w' σ' d v s1 c1 r1 x1
   exact ⟨M', fun _ => .top, σ', .pan d, hs.trans s1, c1, ⟨he.1, fun _ => by simp only [R]⟩, hda ▸ hd.step (hs.trans s1), ⟨v, rfl, r1⟩, x1⟩
/-- A REGION IN THE TEXT's ORDER. -/
theorem rg (keep imm : List Nat) (gt : List (Nat × Nat)) {id : Nat} {l : List Oper} {env : Env} {σ : Store} {Q : AE → Env → Store → Prop} (hok : rgOK nt l.toArray gt = true)
  (h : ∀ (κ : Env → Store → Prop) (ξ : D → Store → Prop), (∀ env σ, Q .normal env σ → κ env σ) → (∀ d σ, Q (.pan d) (fun _ => .top) σ → ξ d σ) → vops P imm gt (fun env σ => κ (prune keep env) σ) ξ l env σ) : AWp P r nt (.region id l.toArray false) env σ Q := by
 intro M w a B hc he hd
 refine wpIn_region ?_
 simp only [rgOK, Bool.and_eq_true] at hok
 have := vops_sound (P := P) (r := r) (imm := imm) (ops := l.toArray) (Q := Q) (GT.of hok.2) keep l 0 (by simp) (by simpa using hok.1) env σ M w a (h (fun env σ => Q .normal env σ) (fun d σ => Q (.pan d) (fun _ => .top) σ) (fun _ _ h => h) (fun _ _ h => h)) hc he hd rfl (Step.refl _ _ _)
 rw [List.range_eq_range', show l.toArray.size = l.length from by simp]
 exact this
end
end Go.Proofs.YtfjnohmdilmfhaaGreatDoor
/- Own layer, part 15: regions are right in whatever order. -/
namespace Go.Proofs.YtfjnohmdilmfhaaGreatDoor
open Go Go.RowKit
set_option linter.unusedSimpArgs false
set_option linter.unusedVariables false
section
variable {P : Program} {M : Mem} {w : World} {σ : Store} {r : Option Nat} {nt : Nat} {ops : Array Oper} {imm soft : List Nat} {gt : List (Nat × Nat)}
theorem napp_mono {ts : Array TypeId} {s x : D} {K K' : D → Store → Prop} (hk : ∀ d σ', K d σ' → K' d σ') (h : napp P σ ts s x K) : napp P σ ts s x K' := by
 unfold napp at h ⊢
 split at h
 ·refine ⟨h.1, ?_⟩
  have h2 := h.2
  split at h2
  ·exact ⟨h2.1, fun b c hb => hk _ _ (h2.2 b c hb)⟩
  ·exact ⟨fun e => hk _ _ (h2.1 e), fun e b c hb => hk _ _ (h2.2 e b c hb)⟩
  ·exact ⟨fun e => hk _ _ (h2.1 e), fun e b c hb => hk _ _ (h2.2 e b c hb)⟩
  ·exact h2
 ·exact h
theorem ncopy_mono {ts : Array TypeId} {s x : D} {K K' : D → Store → Prop} (hk : ∀ d σ', K d σ' → K' d σ') (h : ncopy P σ ts s x K) : ncopy P σ ts s x K' := by
 unfold ncopy at h ⊢
 split at h
 ·split at h
  ·exact ⟨h.1, hk _ _ h.2⟩
  ·exact h
 ·exact h
theorem nappM_mono {ts : Array TypeId} {s x : D} {K K' : D → Store → Prop} (hk : ∀ d σ', K d σ' → K' d σ') (h : nappM P σ ts s x K) : nappM P σ ts s x K' := by
 unfold nappM at h ⊢
 split at h
 ·refine ⟨h.1, ?_⟩
  have h2 := h.2
  split at h2
  ·exact ⟨h2.1, fun e => hk _ _ (h2.2.1 e), fun e b c hb hc => hk _ _ (h2.2.2 e b c hb hc)⟩
  ·split at h2
   ·exact ⟨h2.1, fun e => hk _ _ (h2.2.1 e), fun e b c hb hc => hk _ _ (h2.2.2 e b c hb hc)⟩
   ·exact h2
  ·exact h2
 ·exact h
theorem nappZ_mono {ts : Array TypeId} {s x : D} {K K' : D → Store → Prop} (hk : ∀ d σ', K d σ' → K' d σ') (h : nappZ P σ ts s x K) : nappZ P σ ts s x K' := by
 unfold nappZ at h ⊢
 split at h
 ·split at h
  ·exact ⟨h.1, fun b c hb hc => hk _ _ (h.2 b c hb hc)⟩
  ·exact h
 ·exact h
theorem nev_mono {ρ : Operand → D} {b : Bool} {K K' X : D → Store → Prop} (hk : ∀ d σ', K d σ' → K' d σ') (op : Op) (h : nev P b σ ρ K X op) : nev P b σ ρ K' X op := by
 cases op <;> try exact h.elim
 case alloc T =>
  simp only [nev] at h ⊢
  split at h
  ·cases b
   ·exact fun b hb => hk _ _ (h b hb)
   ·exact hk _ _ h
  ·exact h
 case box T x =>
  refine ⟨h.1, ?_⟩
  have h2 := h.2
  cases b
  ·exact fun b hb => hk _ _ (h2 b hb)
  ·exact hk _ _ h2
 case buildSlice T n ps =>
  simp only [nev] at h ⊢
  split at h
  ·split at h
   ·split at h
    ·exact ⟨h.1, hk _ _ h.2⟩
    ·exact h
   ·exact h
  ·exact h
 case store T a x =>
  simp only [nev, nstore] at h ⊢
  split at h
  ·split at h
   ·exact ⟨h.1, hk _ _ h.2⟩
   ·exact ⟨h.1, hk _ _ h.2⟩
   ·exact h
  ·exact h
 case makeMap T r =>
  cases r with
  | none => exact fun b hb => hk _ _ (h b hb)
  | some _ => exact h
 case mapUpdate T m k x =>
  simp only [nev, nput] at h ⊢
  split at h
  ·split at h
   ·split at h
    ·exact ⟨h.1, hk _ _ h.2⟩
    ·exact h
   ·exact h
  ·exact h
 case insert T m k x =>
  simp only [nev, nput] at h ⊢
  split at h
  ·split at h
   ·split at h
    ·exact ⟨h.1, hk _ _ h.2⟩
    ·exact h
   ·exact h
  ·exact h
 case range T x =>
  simp only [nev] at h ⊢
  split at h
  ·exact ⟨h.1, fun b hb => hk _ _ (h.2 b hb)⟩
  ·exact h
 case next it isS =>
  cases isS with
  | false => exact h.elim
  | true =>
   simp only [nev] at h ⊢
   split at h
   ·split at h
    ·exact ⟨h.1, fun hp => hk _ _ (h.2.1 hp), fun hp => hk _ _ (h.2.2 hp)⟩
    ·exact h
   ·exact h
 case makeSlice T l c =>
  simp only [nev] at h ⊢
  split at h
  ·split at h
   ·refine ⟨h.1, ?_⟩
    have h2 := h.2
    cases b
    ·exact fun b hb => hk _ _ (h2 b hb)
    ·exact ⟨h2.1, fun b hb => hk _ _ (h2.2 b hb)⟩
   ·exact h
  ·exact h
 case call c =>
  obtain ⟨callee, xs, ts⟩ := c
  cases callee with
  | value f =>
   simp only [nev] at h ⊢
   split at h
   ·refine ⟨h.1, h.2.imp (fun ⟨d, h1, h2⟩ => ⟨d, h1, hk _ _ h2⟩) fun h1 => h1.mono fun r σ' h2 => ?_⟩
    cases r
    ·exact hk _ _ h2
    ·exact h2
   ·exact h
  | invoke f m => exact h.elim
  | builtin b' =>
   cases b' <;> try exact h.elim
   case append =>
    simp only [nev] at h ⊢
    split at h
    ·cases b with
     | true => exact h.imp (nappM_mono hk) (nappZ_mono hk)
     | false => exact napp_mono hk h
    ·exact h
   case copy =>
    simp only [nev] at h ⊢
    split at h
    ·exact ncopy_mono hk h
    ·exact h
 case panic x =>
  simp only [nev] at h ⊢
  split at h
  ·exact h
  ·exact h
theorem nv_mono {o : Oper} {env : Env} {κ κ' X : D → Store → Prop} (hk : ∀ d σ', κ d σ' → κ' d σ') (h : nv P imm gt o env σ κ X) : nv P imm gt o env σ κ' X := by
 unfold nv at h ⊢
 split at h
 ·exact nev_mono hk _ h
 ·split at h
  ·exact h.imp (fun ⟨d, h1, h2⟩ => ⟨d, h1, hk _ _ h2⟩) (fun ⟨h1, h2⟩ => ⟨fun e => ⟨(h1 e).1, nev_mono hk _ (h1 e).2⟩, fun e => hk _ _ (h2 e)⟩)
  ·exact h.elim
theorem qev_ext {ρ : Operand → D} {σ' : Store} (op : Op) (hx : rdSt op = false ∨ Ext σ σ') (h : (qev P σ ρ op).1) : qev P σ' ρ op = qev P σ ρ op := by
 rcases hx with hx | hx
 ·cases op <;> first | (cases hx; done) | rfl | skip
  case call c =>
   obtain ⟨callee, xs, ts⟩ := c
   cases callee <;> rfl
 cases op <;> try rfl
 case lookup T x i ok =>
  simp only [qev, qlook] at h ⊢
  split at h
  ·rename_i k e es hT hes
   have : ments σ' (ρ x) = some es := by
    unfold ments at hes ⊢
    split at hes
    ·split at hes
     ·rename_i hg; rw [(hx _ _ hg).resolve_left (by simp [Box.isTail])]; exact hes
     ·cases hes
    ·exact hes
    ·cases hes
   rw [this, hT]
  ·exact h.elim
 case convert s d x =>
  simp only [qev] at h ⊢
  cases e : ρ x with
  | arr b sz n cap =>
   rw [e] at h
   simp only [qconv] at h ⊢
   cases hg : σ.get b with
   | none => rw [hg] at h; exact h.elim
   | some bx =>
    rcases hx b bx hg with ht | ht
    ·cases bx <;> simp [Box.isTail] at ht
     rw [hg] at h; exact h.elim
    ·rw [ht]
  | _ => rfl
 case load T x =>
  simp only [qev, qload] at h ⊢
  split at h
  ·rfl
  ·rename_i g n b o hz hb
   split at h
   ·rename_i cs hcs
    have : boxCells σ' b = some cs := by
     unfold boxCells at hcs ⊢
     split at hcs
     ·rename_i hg; rw [(hx _ _ hg).resolve_left (by simp [Box.isTail])]; exact hcs
     ·rename_i hg; rw [(hx _ _ hg).resolve_left (by simp [Box.isTail])]; exact hcs
     ·cases hcs
    rw [this]
   ·exact h.elim
  ·exact h.elim
 case call c =>
  obtain ⟨callee, xs, ts⟩ := c
  cases callee <;> rfl
theorem gev_ext {env : Env} {σ' : Store} (op : Op) (hx : rdSt op = false ∨ Ext σ σ') (h : (gev P σ env op).1) : gev P σ' env op = gev P σ env op := by
 unfold gev at h ⊢
 split
 ·rfl
 ·rename_i hn
  have h2 : (qev P σ (opc env) op).1 := by
   split at h
   ·exact absurd rfl (hn _ _ _)
   ·exact h.2
  rw [qev_ext op hx h2]
theorem Ext.refl (σ : Store) : Ext σ σ := fun _ _ h => .inr h
theorem Ext.trans {σ1 σ2 σ3 : Store} (h : Ext σ1 σ2) (h' : Ext σ2 σ3) : Ext σ1 σ3 := fun b x hx => (h b x hx).elim .inl (h' b x)
/-- A quiet operation whose value was told at an earlier store. -/
theorem quiet_sound (hgt : GT ops gt) (hc : Conc M w σ) {env : Env} {a : Act} (he : EnvR M nt env a) {o : Oper} (hok : okOp nt o = true) {σq : Store} (hx : rdSt o.op = false ∨ Ext σq σ) (h : (qv P gt o env σq).1) :
  ∃ v, R M (qv P gt o env σq).2 v ∧ ∀ (nx : Act → World → Prop) (Q : Exit → Act → World → Prop), nx (a.put o.dst v) w → opGoal P r ops o Q nx a w := by
 have hd := quiet_not_defer hok
 unfold qv at h ⊢
 split at h
 ·rename_i hg
  have e := qev_ext _ hx h
  obtain ⟨v, r1, r2⟩ := qev_sound hc (opd_R he) o (by rw [e]; exact h)
  rw [e] at r2
  refine ⟨v, r2, fun nx Q hn => ?_⟩
  unfold opGoal
  rw [if_pos (by simp [Region.wanted, hg])]
  refine ⟨fun _ _ => trivial, ?_⟩
  rw [Oper.semAt_eq _ _ _ hd, r1]
  exact hn
 ·rename_i j want hg
  split at h
  ·rename_i g hgv
   have hw := wanted_of hgt he hg hgv
   cases g with
   | true =>
    have h4 := h rfl
    have e := gev_ext _ hx h4
    obtain ⟨v, r1, r2⟩ := gev_sound (P := P) hc he o (by rw [e]; exact h4)
    rw [e] at r2
    refine ⟨v, R_cnd_true r2, fun nx Q hn => ?_⟩
    unfold opGoal
    rw [hw, if_pos rfl]
    refine ⟨fun _ _ => trivial, ?_⟩
    rw [Oper.semAt_eq _ _ _ hd, r1]
    exact hn
   | false =>
    refine ⟨undef, R_cnd_false, fun nx Q hn => ?_⟩
    unfold opGoal
    rw [hw, if_neg (by simp)]
    exact ⟨fun _ _ => trivial, hn⟩
  ·exact h.elim
/-- A call that only computes, wherever it is made. -/
theorem soft_sound (hgt : GT ops gt) (hc : Conc M w σ) {env : Env} {a : Act} (he : EnvR M nt env a) {o : Oper} (hok : okOp nt o = true) {d : D} (h : (pv P gt o env d).1) {nx : Act → World → Prop} {Q : Exit → Act → World → Prop}
  (hK : ∀ M' w' a', Step M w σ M' w' σ → Conc M' w' σ → EnvR M' nt (env.put o.dst (pv P gt o env d).2) a' → a'.defers = a.defers → nx a' w') : opGoal P r ops o Q nx a w := by
 have hd := quiet_not_defer hok
 have hdst := okOp_dst hok
 have hdef : ∀ v, (a.put o.dst v).defers = a.defers := fun v => by cases o.dst <;> rfl
 have core : ∀ ρ : Operand → D, (∀ x ∈ o.op.operands, R M (ρ x) (a.eval x)) → PCallOp P ρ o.op d → NOut P M w σ (execOp a.eval o) (fun d' σ' => d' = d ∧ σ' = σ) (fun _ _ => False) := by
  intro ρ hρ h4
  refine nev_sound' (b := false) hc o hρ ?_
  unfold PCallOp at h4
  split at h4
  ·rename_i f xs ts hop
   split at h4
   ·rename_i fn fs cs hf
    rw [hop]
    simp only [nev, hf]
    exact ⟨h4.1, .inl ⟨d, h4.2, by simp⟩⟩
   ·exact h4.elim
  ·exact h4.elim
 unfold opGoal
 unfold pv at h hK
 split at h
 ·rename_i hg
  simp only [hg] at hK
  rw [if_pos (by simp [Region.wanted, hg])]
  refine wpIn_of_out hd (core _ (fun x _ => opd_R he x) h) ?_ (fun _ _ _ _ _ _ _ _ hx => hx.elim)
  rintro M' w' σ' d' v' s1 c1 r3 ⟨rfl, rfl⟩
  exact hK M' w' _ s1 c1 ((he.mono s1.le).put hdst r3) (hdef _)
 ·rename_i j want hg
  split at h
  ·rename_i g hgv
   have hw := wanted_of hgt he hg hgv
   simp only [hg, hgv] at hK
   cases g with
   | true =>
    obtain ⟨h3, h4⟩ := h rfl
    rw [hw, if_pos rfl]
    refine wpIn_of_out hd (core _ (opc_R he o.op h3) h4) ?_ (fun _ _ _ _ _ _ _ _ hx => hx.elim)
    rintro M' w' σ' d' v' s1 c1 r3 ⟨rfl, rfl⟩
    exact hK M' w' _ s1 c1 ((he.mono s1.le).put hdst (R_cnd_true r3)) (hdef _)
   | false =>
    rw [hw, if_neg (by simp)]
    exact ⟨fun _ _ => trivial, hK M w _ (Step.refl _ _ _) hc (he.put hdst R_cnd_false) (hdef _)⟩
  ·exact h.elim
/-- As 'SV', the results chosen on the way. -/
def SE (P : Program) (imm soft : List Nat) (gt : List (Nat × Nat)) (ops : Array Oper) (κ : Env → Store → Prop) (X : D → Store → Prop) : List (Nat × Option Store) → Env → Store → Prop
 | [], env, σ => κ env σ
 | (i, q) :: is, env, σ => match ops[i]? with
  | some o => bif softC soft o then ∃ d, (pv P gt o env d).1 ∧ SE P imm soft gt ops κ X is (env.put o.dst (pv P gt o env d).2) σ
   else bif quiet o.op then (rdSt o.op = false ∨ Ext (q.getD σ) σ) ∧ (qv P gt o env (q.getD σ)).1 ∧ SE P imm soft gt ops κ X is (env.put o.dst (qv P gt o env (q.getD σ)).2) σ
   else nv P imm gt o env σ (fun d σ' => (isW soft o = true ∨ Ext σ σ') ∧ SE P imm soft gt ops κ X is (env.put o.dst d) σ') X
  | none => False
theorem SE_of_vdr {κ : Env → Store → Prop} {X : D → Store → Prop} : ∀ {is : List Nat} {os : List Oper} {env : Env} {σ : Store}, is.map (fun i => ops[i]?) = os.map some → vdr P imm soft gt κ X os env σ → SE P imm soft gt ops κ X (is.map fun i => (i, none)) env σ
 | [], [], _, _, _, h => h
 | i :: is, o :: os, env, σ, hm, h => by
  simp only [List.map_cons, List.cons.injEq] at hm
  obtain ⟨ho, hm⟩ := hm
  simp only [vdr] at h
  simp only [List.map_cons, SE, ho]
  cases hs : softC soft o with
  | true =>
   simp only [hs, cond_true] at h ⊢
   obtain ⟨d, h1, h2⟩ := h
   exact ⟨d, h1, SE_of_vdr hm h2⟩
  | false =>
  simp only [hs, cond_false] at h ⊢
  unfold vop at h
  cases hq : quiet o.op with
  | true =>
   simp only [hq, cond_true] at h ⊢
   exact ⟨.inr (Ext.refl _), h.1, SE_of_vdr hm h.2.2⟩
  | false =>
   simp only [hq, cond_false] at h ⊢
   exact nv_mono (fun d σ' hh => ⟨hh.1, SE_of_vdr hm hh.2⟩) h
 | [], _ :: _, _, _, hm, _ => by simp at hm
 | _ :: _, [], _, _, hm, _ => by simp at hm
/-! ### What an operation reads -/
theorem put_apart {env : Env} {dst : Option Nat} {d : D} {t : Nat} (h : ∀ x, dst = some x → t ≠ x) : env.put dst d t = env t := by
 cases dst with
 | none => rfl
 | some x => simp only [Env.put, Env.set]; rw [if_neg (h x rfl)]
theorem opd_apart {env : Env} {dst : Option Nat} {d : D} {o : Oper} (h : ∀ x, dst = some x → x ∉ o.looksAt ops) : ∀ x ∈ o.op.operands, opd (env.put dst d) x = opd env x := by
 intro x hx
 cases x with
 | tmp t =>
  refine put_apart fun y hy e => ?_
  subst e
  refine h t hy ?_
  unfold Oper.looksAt
  exact List.mem_append_left _ (List.mem_filterMap.2 ⟨.tmp t, by simpa using hx, rfl⟩)
 | const v => rfl
 | global g => rfl
 | func f => rfl
theorem gt_apart (hgt : GT ops gt) {env : Env} {dst : Option Nat} {d : D} {o : Oper} {j : Nat} {want : Bool} (hg : o.guard = some (j, want)) (h : ∀ x, dst = some x → x ∉ o.looksAt ops) :
  ((look gt j).bind fun t => gval (env.put dst d t) want) = (look gt j).bind fun t => gval (env t) want := by
 cases ht : look gt j with
 | none => rfl
 | some t =>
  simp only [Option.bind_some]
  rw [put_apart]
  intro x hx e
  subst e
  refine h t hx ?_
  unfold Oper.looksAt
  refine List.mem_append_right _ ?_
  rw [hg]
  replace ht := hgt _ _ ht
  unfold gtmp at ht
  simp [ht]
theorem cgs_apart {env env' : Env} {op : Op} (h : ∀ x ∈ op.operands, opd env x = opd env' x) : cgs env op = cgs env' op := by
 unfold cgs
 rw [Bool.eq_iff_iff, List.all_eq_true, List.all_eq_true]
 constructor
 ·intro hh x hx; rw [← h x (by simpa using hx)]; exact hh x hx
 ·intro hh x hx; rw [h x (by simpa using hx)]; exact hh x hx
theorem gev_congr {env env' : Env} {op : Op} (h : ∀ x ∈ op.operands, opd env x = opd env' x) : gev P σ env op = gev P σ env' op := by
 unfold gev
 split
 ·rename_i c a b
  have h1 := h c (by simp [Op.operands])
  have h2 := h a (by simp [Op.operands])
  have h3 := h b (by simp [Op.operands])
  unfold opc
  rw [h1, h2, h3]
 ·rw [cgs_apart h, qev_congr (ρ := opc env) (ρ' := opc env') _ fun x hx => by unfold opc; rw [h x hx]]
theorem qv_apart (hgt : GT ops gt) {env : Env} {dst : Option Nat} {d : D} {o : Oper} (h : ∀ x, dst = some x → x ∉ o.looksAt ops) : qv P gt o (env.put dst d) σ = qv P gt o env σ := by
 have h1 := opd_apart (env := env) (d := d) h
 unfold qv
 split
 ·exact qev_congr _ h1
 ·rename_i j want hg
  rw [gt_apart hgt hg h]
  split
  ·rw [gev_congr h1]
  ·rfl
theorem PCallOp_congr {ρ ρ' : Operand → D} (op : Op) (h : ∀ x ∈ op.operands, ρ x = ρ' x) (d : D) : PCallOp P ρ op d = PCallOp P ρ' op d := by
 cases op with
 | call c =>
  obtain ⟨callee, xs, ts⟩ := c
  cases callee with
  | value f =>
   have h1 : xs.toList.map ρ = xs.toList.map ρ' := List.map_congr_left fun x hx => h x (by simp only [Op.operands, Call.operands, Array.mem_append]; exact .inr (by simpa using hx))
   simp only [PCallOp, h1, h f (by simp [Op.operands, Call.operands])]
  | _ => rfl
 | _ => rfl
theorem nv_apart (hgt : GT ops gt) {env : Env} {dst : Option Nat} {d : D} {o : Oper} {κ X : D → Store → Prop} (h : ∀ x, dst = some x → x ∉ o.looksAt ops) : nv P imm gt o (env.put dst d) σ κ X = nv P imm gt o env σ κ X := by
 have h1 := opd_apart (env := env) (d := d) h
 have h2 : ∀ x ∈ o.op.operands, opc (env.put dst d) x = opc env x := fun x hx => by unfold opc; rw [h1 x hx]
 unfold nv
 split
 ·exact nev_congr _ h1
 ·rename_i j want hg
  rw [gt_apart hgt hg h]
  split
  ·rw [cgs_apart h1, nev_congr _ h2]
   simp only [PCallOp_congr _ h2]
  ·rfl
theorem put_comm {env : Env} {a b : Option Nat} {x y : D} (h : ∀ t, a = some t → b ≠ some t) : (env.put a x).put b y = (env.put b y).put a x := by
 cases a with
 | none => rfl
 | some s =>
  cases b with
  | none => rfl
  | some t =>
   have hst : s ≠ t := fun e => h s rfl (by rw [e])
   funext j
   simp only [Env.put, Env.set]
   by_cases h1 : j = t
   ·subst h1; rw [if_pos rfl, if_neg (fun e => hst e.symm), if_pos rfl]
   ·rw [if_neg h1]
    by_cases h2 : j = s
    ·rw [if_pos h2, if_pos h2]
    ·rw [if_neg h2, if_neg h2, if_neg h1]
theorem pv_apart (hgt : GT ops gt) {env : Env} {dst : Option Nat} {d d' : D} {o : Oper} (h : ∀ x, dst = some x → x ∉ o.looksAt ops) : pv P gt o (env.put dst d) d' = pv P gt o env d' := by
 have h1 := opd_apart (env := env) (d := d) h
 have h2 : ∀ x ∈ o.op.operands, opc (env.put dst d) x = opc env x := fun x hx => by unfold opc; rw [h1 x hx]
 unfold pv
 split
 ·rw [PCallOp_congr _ h1]
 ·rename_i j want hg
  rw [gt_apart hgt hg h]
  split
  ·rw [cgs_apart h1, PCallOp_congr _ h2]
  ·rfl
/-- A quiet operation, or a call that only computes, may wait. -/
theorem SE_swap (hgt : GT ops gt) {κ : Env → Store → Prop} {X : D → Store → Prop} {i j : Nat} {oi oj : Oper} {q qj : Option Store} {rest : List (Nat × Option Store)} {env : Env} (hi : ops[i]? = some oi) (hj : ops[j]? = some oj)
  (hq : (quiet oi.op || softC soft oi) = true) (hap : oi.apart ops oj = true) (hst : isW soft oj = false ∨ rdSt oi.op = false) (h : SE P imm soft gt ops κ X ((i, q) :: (j, qj) :: rest) env σ) :
  ∃ q' qj', SE P imm soft gt ops κ X ((j, qj') :: (i, q') :: rest) env σ := by
 obtain ⟨a1, a2, a3⟩ := Oper.apart_spec hap
 cases hsi : softC soft oi with
 | true =>
  simp only [SE, hi, hsi, cond_true, hj] at h
  obtain ⟨d, h1, h3⟩ := h
  cases hsj : softC soft oj with
  | true =>
   simp only [hsj, cond_true] at h3
   obtain ⟨d2, h5, h6⟩ := h3
   rw [pv_apart hgt a1] at h5 h6
   refine ⟨q, qj, ?_⟩
   simp only [SE, hi, hsi, cond_true, hj, hsj]
   refine ⟨d2, h5, d, ?_, ?_⟩
   ·rw [pv_apart hgt a3]; exact h1
   ·rw [pv_apart hgt a3, ← put_comm a2]; exact h6
  | false =>
  simp only [hsj, cond_false] at h3
  cases hqj : quiet oj.op with
  | true =>
   simp only [hqj, cond_true] at h3
   obtain ⟨h4, h5, h6⟩ := h3
   rw [qv_apart hgt a1] at h5 h6
   refine ⟨q, qj, ?_⟩
   simp only [SE, hi, hsi, cond_true, cond_false, hj, hqj, hsj]
   refine ⟨h4, h5, d, ?_, ?_⟩
   ·rw [pv_apart hgt a3]; exact h1
   ·rw [pv_apart hgt a3, ← put_comm a2]; exact h6
  | false =>
   simp only [hqj, cond_false] at h3
   rw [nv_apart hgt a1] at h3
   refine ⟨q, qj, ?_⟩
   simp only [SE, hi, hsi, cond_true, hj, hqj, hsj, cond_false]
   refine nv_mono (fun d' σ' hh => ⟨hh.1, d, ?_, ?_⟩) h3
   ·rw [pv_apart hgt a3]; exact h1
   ·rw [pv_apart hgt a3, ← put_comm a2]; exact hh.2
 | false =>
 rw [hsi, Bool.or_false] at hq
 simp only [SE, hi, hsi, hq, cond_true, cond_false, hj] at h
 obtain ⟨h1, h2, h3⟩ := h
 cases hsj : softC soft oj with
 | true =>
  simp only [hsj, cond_true] at h3
  obtain ⟨d2, h5, h6⟩ := h3
  rw [pv_apart hgt a1] at h5 h6
  refine ⟨q, qj, ?_⟩
  simp only [SE, hi, hsi, hq, cond_true, cond_false, hj, hsj]
  refine ⟨d2, h5, h1, ?_, ?_⟩
  ·rw [qv_apart hgt a3]; exact h2
  ·rw [qv_apart hgt a3, ← put_comm a2]; exact h6
 | false =>
 simp only [hsj, cond_false] at h3
 cases hqj : quiet oj.op with
 | true =>
  simp only [hqj, cond_true] at h3
  obtain ⟨h4, h5, h6⟩ := h3
  rw [qv_apart hgt a1] at h5 h6
  refine ⟨q, qj, ?_⟩
  simp only [SE, hi, hq, hsi, hsj, cond_true, cond_false, hj, hqj]
  refine ⟨h4, h5, h1, ?_, ?_⟩
  ·rw [qv_apart hgt a3]; exact h2
  ·rw [qv_apart hgt a3, ← put_comm a2]; exact h6
 | false =>
  simp only [hqj, cond_false] at h3
  rw [nv_apart hgt a1] at h3
  refine ⟨some (q.getD σ), qj, ?_⟩
  simp only [SE, hi, hq, hsi, hsj, cond_true, hj, hqj, cond_false, Option.getD_some]
  refine nv_mono (fun d σ' hh => ⟨hh.1, ?_, ?_, ?_⟩) h3
  ·rcases hst with hst | hst
   ·rcases h1 with h1 | h1
    ·exact .inl h1
    ·rcases hh.1 with hs | hs
     ·rw [hst] at hs; cases hs
     ·exact .inr (h1.trans hs)
   ·exact .inl hst
  ·rw [qv_apart hgt a3]; exact h2
  ·rw [qv_apart hgt a3, ← put_comm a2]; exact hh.2
theorem free_mono {listed : Array Bool} {i j : Nat} (h : Region.free .any ops listed i = true) : Region.free .any ops (listed.setIfInBounds j true) i = true := by
 unfold Region.free at h ⊢
 split
 ·rename_i hi; simp only [hi] at h; exact h
 ·rename_i oi hi
  simp only [hi] at h
  rw [List.all_eq_true] at h ⊢
  intro k hk
  have h1 := h k hk
  simp only [Bool.or_eq_true] at h1 ⊢
  rcases h1 with (h1 | h1) | h1
  ·exact .inl (.inl h1)
  ·refine .inl (.inr ?_)
   by_cases hjk : j = k
   ·subst hjk
    rcases Nat.lt_or_ge j listed.size with hlt | hge
    ·simp [hlt]
    ·simp [Nat.not_lt.2 hge]
   ·rw [getD_set_ne true hjk]; exact h1
  ·exact .inr h1
/-- The order is kept when an operation is taken out. -/
theorem stOK_at (h : stOK soft ops = true) {i j : Nat} {oi oj : Oper} (hi : ops[i]? = some oi) (hj : ops[j]? = some oj) (hne : i ≠ j) (hno : ∀ e ∈ oj.after, Region.binds .any e = true → e.on ≠ i) : isW soft oj = false ∨ rdSt oi.op = false := by
 unfold stOK at h
 rw [List.all_eq_true] at h
 have h1 := h j (List.mem_range.2 (Array.getElem?_eq_some_iff.1 hj).1)
 simp only [hj, Bool.or_eq_true, Bool.not_eq_true'] at h1
 rcases h1 with h1 | h1
 ·exact .inl h1
 ·unfold soloR at h1
  rw [List.all_eq_true] at h1
  have h2 := h1 i (List.mem_range.2 (Array.getElem?_eq_some_iff.1 hi).1)
  simp only [hi, Bool.or_eq_true, beq_iff_eq, hne, false_or, Bool.not_eq_true'] at h2
  rcases h2 with h2 | h2
  ·exact .inr h2
  ·obtain ⟨e, he, hb⟩ := Array.any_eq_true'.1 h2
   simp only [Bool.and_eq_true, beq_iff_eq] at hb
   exact absurd hb.2 (hno e he hb.1)
theorem chk_pull (hsto : stOK soft ops = true) : ∀ {ps : List Nat} {j : Nat} {rest : List Nat} {listed : Array Bool}, chk soft ops (ps ++ j :: rest) listed = true → j ∈ Region.ready .any ops listed → j ∉ ps →
  (∀ p ∈ ps, ∃ op oj, ops[p]? = some op ∧ ops[j]? = some oj ∧ (quiet op.op || softC soft op) = true ∧ op.apart ops oj = true ∧ (isW soft oj = false ∨ rdSt op.op = false)) ∧ chk soft ops (ps ++ rest) (listed.setIfInBounds j true) = true
 | [], j, rest, listed, h, _, _ => by
  simp only [List.nil_append, chk, Bool.and_eq_true] at h
  exact ⟨by simp, h.2⟩
 | p :: ps, j, rest, listed, h, hj, hn => by
  simp only [List.mem_cons, not_or] at hn
  simp only [List.cons_append, chk, Bool.and_eq_true] at h
  obtain ⟨⟨h1, h2⟩, h3⟩ := h
  obtain ⟨hju, oj, hoj, hall⟩ := mem_ready.1 hj
  split at h2
  ·rename_i op hop
   have hpr : p ∈ Region.ready .any ops listed := by simpa using h1
   have hpu := (mem_ready.1 hpr).1
   have hqf : (quiet op.op || softC soft op) = true ∧ Region.free .any ops listed p = true := by
    rcases Bool.or_eq_true _ _ ▸ h2 with h2 | h2
    ·rwa [Bool.and_eq_true] at h2
    ·rw [beq_iff_eq] at h2
     rw [h2] at hj
     simp at hj
     exact absurd hj hn.1
   have hno : ∀ e ∈ oj.after, Region.binds .any e = true → e.on ≠ p := fun e he hb heq => by
    have := hall e he hb
    rw [heq] at this
    rcases Nat.lt_or_ge p listed.size with h' | h'
    ·simp [h'] at this hpu; rw [hpu] at this; cases this
    ·simp [Array.getElem?_eq_none h'] at this
   have hap : op.apart ops oj = true := Region.free_spec hop hqf.2 j oj hoj hn.1 hju hno
   have hso := stOK_at hsto hop hoj (fun e => hn.1 e.symm) hno
   obtain ⟨i1, i2⟩ := chk_pull hsto h3 (ready_mono hj hn.1) hn.2
   refine ⟨fun x hx => ?_, ?_⟩
   ·rcases List.mem_cons.1 hx with rfl | hx
    ·exact ⟨op, oj, hop, hoj, hqf.1, hap, hso⟩
    ·exact i1 x hx
   ·simp only [List.cons_append, chk, Bool.and_eq_true]
    refine ⟨⟨by simpa using ready_mono hpr (fun e => hn.1 e.symm), ?_⟩, ?_⟩
    ·simp only [hop, hqf.1, free_mono hqf.2, Bool.true_and, Bool.true_or]
    ·rw [Array.setIfInBounds_comm _ _ hn.1]; exact i2
  ·cases h2
theorem ready_in_chk : ∀ {c : List Nat} {j : Nat} {listed : Array Bool}, chk soft ops c listed = true → j ∈ Region.ready .any ops listed → j ∈ c
 | [], j, listed, h, hj => by
  simp only [chk, List.isEmpty_iff] at h
  rw [h] at hj; exact hj
 | i :: c, j, listed, h, hj => by
  by_cases e : j = i
  ·subst e; simp
  ·simp only [chk, Bool.and_eq_true] at h
   exact List.mem_cons_of_mem _ (ready_in_chk h.2 (ready_mono hj e))
theorem SE_pull (hgt : GT ops gt) {κ : Env → Store → Prop} {X : D → Store → Prop} {j : Nat} {qj : Option Store} {rest : List (Nat × Option Store)} : ∀ {ps : List (Nat × Option Store)} {env : Env} {σ : Store},
  (∀ p ∈ ps.map Prod.fst, ∃ op oj, ops[p]? = some op ∧ ops[j]? = some oj ∧ (quiet op.op || softC soft op) = true ∧ op.apart ops oj = true ∧ (isW soft oj = false ∨ rdSt op.op = false)) → SE P imm soft gt ops κ X (ps ++ (j, qj) :: rest) env σ →
  ∃ qj' ps', ps'.map Prod.fst = ps.map Prod.fst ∧ SE P imm soft gt ops κ X ((j, qj') :: ps' ++ rest) env σ
 | [], env, σ, _, h => ⟨qj, [], rfl, h⟩
 | (p, q) :: ps, env, σ, hp, h => by
  obtain ⟨op, oj, h1, h2, h3, h4, h5⟩ := hp p (by simp)
  have h' := h
  have hp' : ∀ x ∈ ps.map Prod.fst, _ := fun x hx => hp x (by simp only [List.map_cons, List.mem_cons]; exact .inr hx)
  have fin : ∀ (qj' : Option Store) (ps' : List (Nat × Option Store)), ps'.map Prod.fst = ps.map Prod.fst → SE P imm soft gt ops κ X ((p, q) :: (j, qj') :: (ps' ++ rest)) env σ →
    ∃ qj' ps', ps'.map Prod.fst = ((p, q) :: ps).map Prod.fst ∧ SE P imm soft gt ops κ X ((j, qj') :: ps' ++ rest) env σ := by
   intro qj' ps' hps this
   obtain ⟨q', qj'', hsw⟩ := SE_swap hgt h1 h2 h3 h4 h5 this
   exact ⟨qj'', (p, q') :: ps', by simp [hps], by simpa using hsw⟩
  cases hso : softC soft op with
  | true =>
   simp only [List.cons_append, SE, h1, hso, cond_true] at h'
   obtain ⟨d, e1, e3⟩ := h'
   obtain ⟨qj', ps', hps, hs⟩ := SE_pull hgt hp' e3
   refine fin qj' ps' hps ?_
   rw [SE]
   simp only [h1, hso, cond_true]
   exact ⟨d, e1, hs⟩
  | false =>
   rw [hso, Bool.or_false] at h3
   simp only [List.cons_append, SE, h1, h3, hso, cond_true, cond_false] at h'
   obtain ⟨e1, e2, e3⟩ := h'
   obtain ⟨qj', ps', hps, hs⟩ := SE_pull hgt hp' e3
   refine fin qj' ps' hps ?_
   rw [SE]
   simp only [h1, h3, hso, cond_true, cond_false]
   exact ⟨e1, e2, hs⟩
theorem any_sound (hgt : GT ops gt) {Q : AE → Env → Store → Prop} (keep : List Nat) {M0 : Mem} {w0 : World} {σ0 : Store} {a0 : Act} {B : Nat × List Deferred} (hok : ops.toList.all (okOp nt) = true) (hsto : stOK soft ops = true) : ∀ (n : Nat) (c : List (Nat × Option Store)) (listed : Array Bool), c.length = n → chk soft ops (c.map Prod.fst) listed = true →
  ∀ (env : Env) (σ : Store) (M : Mem) (w : World) (a : Act),
  SE P imm soft gt ops (fun env σ => Q .normal (prune keep env) σ) (fun d σ => Q (.pan d) (fun _ => .top) σ) c env σ →
  Conc M w σ → EnvR M nt env a → DefOK B σ0 w0 a0.defers → a.defers = a0.defers → Step M0 w0 σ0 M w σ → wpAnyIn (WF r) 0 P .any ops (rgPost M0 w0 σ0 nt B Q) n listed a w
 | 0, c, listed, hl, hck, env, σ, M, w, a, h, hc, he, hd, hda, hs => by
  have hnil : c = [] := List.eq_nil_of_length_eq_zero hl
  subst hnil
  simp only [List.map_nil, chk, List.isEmpty_iff] at hck
  exact ⟨hck, M, _, σ, .normal, hs, hc, he.prune keep, hda ▸ hd.step hs, trivial, h⟩
 | n + 1, c, listed, hl, hck, env, σ, M, w, a, h, hc, he, hd, hda, hs => by
  refine ⟨fun h0 => ?_, fun j hj => ?_⟩
  ·cases c with
   | nil => simp at hl
   | cons i c =>
    simp only [List.map_cons, chk, Bool.and_eq_true, h0] at hck
    simp at hck
  ·have hm := ready_in_chk hck hj
   obtain ⟨ps, rest, hsplit, hnot⟩ : ∃ ps rest, c.map Prod.fst = ps ++ j :: rest ∧ j ∉ ps := by
    obtain ⟨ps, rest, h1, h2⟩ := List.append_of_mem hm |>.elim fun s h => h.elim fun t h => (⟨s, t, h, trivial⟩ : ∃ s t, c.map Prod.fst = s ++ j :: t ∧ True)
    clear h2
    have := List.eq_append_cons_of_mem hm
    obtain ⟨as, bs, h3, h4⟩ := this
    exact ⟨as, bs, h3, h4⟩
   obtain ⟨cs1, c2, rfl, hc1, hc2⟩ := List.map_eq_append_iff.1 hsplit
   cases c2 with
   | nil => simp at hc2
   | cons jq c3 =>
    obtain ⟨j', qj⟩ := jq
    simp only [List.map_cons, List.cons.injEq] at hc2
    obtain ⟨rfl, hc3⟩ := hc2
    rw [hsplit] at hck
    obtain ⟨p1, p2⟩ := chk_pull hsto hck hj hnot
    subst hc1
    obtain ⟨qj', ps', hps, hsv⟩ := SE_pull hgt p1 h
    obtain ⟨_, oj, hoj, _⟩ := mem_ready.1 hj
    have hoko : okOp nt oj = true := by
     rw [List.all_eq_true] at hok
     exact hok oj (by simpa using Array.mem_of_getElem? hoj)
    have hlen : (ps' ++ c3).length = n := by
     have : ps'.length = cs1.length := by have := congrArg List.length hps; simpa using this
     simp only [List.length_append, List.length_cons] at hl ⊢
     omega
    have hck' : chk soft ops ((ps' ++ c3).map Prod.fst) (listed.setIfInBounds j' true) = true := by
     rw [List.map_append, hps, hc3]; exact p2
    unfold wpOpIn
    simp only [hoj]
    simp only [List.cons_append, SE, hoj] at hsv
    cases hso : softC soft oj with
    | true =>
     simp only [hso, cond_true] at hsv
     obtain ⟨d, e1, e3⟩ := hsv
     refine soft_sound (r := r) (ops := ops) hgt hc he hoko e1 ?_
     intro M' w' a' s1 c1 e4 d1
     exact any_sound hgt keep hok hsto n (ps' ++ c3) _ hlen hck' _ σ M' w' a' e3 c1 e4 hd (d1.trans hda) (hs.trans s1)
    | false =>
    simp only [hso, cond_false] at hsv
    cases hq : quiet oj.op with
    | true =>
     simp only [hq, cond_true] at hsv
     obtain ⟨e1, e2, e3⟩ := hsv
     obtain ⟨v, r1, r2⟩ := quiet_sound (r := r) (ops := ops) hgt hc he hoko e1 e2
     refine r2 _ _ (any_sound hgt keep hok hsto n (ps' ++ c3) _ hlen hck' _ σ M w _ e3 hc (he.put (okOp_dst hoko) r1) hd ?_ hs)
     rw [← hda]; cases oj.dst <;> rfl
    | false =>
     simp only [hq, cond_false] at hsv
     refine vop_sound (imm := imm) (ops := ops) (r := r) hgt hc he hoko (κ := fun env' σ' => SE P imm soft gt ops (fun env σ => Q .normal (prune keep env) σ) (fun d σ => Q (.pan d) (fun _ => .top) σ) (ps' ++ c3) env' σ') (X := fun d σ => Q (.pan d) (fun _ => .top) σ) ?_ ?_ ?_
     ·unfold vop
      simp only [hq, cond_false]
      exact nv_mono (fun d σ' hh => hh.2) hsv
     ·intro M' w' σ' env' a' s1 c1 e1 d1 k1
      exact any_sound hgt keep hok hsto n (ps' ++ c3) _ hlen hck' env' σ' M' w' a' k1 c1 e1 hd (d1.trans hda) (hs.trans s1)
     ·intro M' w' σ' d v s1 c1 r1 x1
      exact ⟨M', fun _ => .top, σ', .pan d, hs.trans s1, c1, ⟨he.1, fun _ => by simp only [R]⟩, hda ▸ hd.step (hs.trans s1), ⟨v, rfl, r1⟩, x1⟩
/-- A REGION IN WHATEVER ORDER: one order serves. -/
theorem rgp (keep imm soft : List Nat) (gt : List (Nat × Nat)) (perm : List Nat) {id : Nat} {l pl : List Oper} {env : Env} {σ : Store} {Q : AE → Env → Store → Prop} (hm : P.follows .mixedOrders = true) (hok : drOK nt soft l.toArray gt perm = true)
  (hpl : perm.map (fun i => l.toArray[i]?) = pl.map some)
  (h : ∀ (κ : Env → Store → Prop) (ξ : D → Store → Prop), (∀ env σ, Q .normal env σ → κ env σ) → (∀ d σ, Q (.pan d) (fun _ => .top) σ → ξ d σ) → vdr P imm soft gt (fun env σ => κ (prune keep env) σ) ξ pl env σ) : AWp P r nt (.region id l.toArray true) env σ Q := by
 intro M w a B hc he hd
 unfold drOK rgOK at hok
 simp only [Bool.and_eq_true, beq_iff_eq] at hok
 obtain ⟨⟨⟨⟨h1, h4⟩, h5⟩, h2⟩, h3⟩ := hok
 refine wpIn_region_any hm ?_
 have := any_sound (P := P) (r := r) (imm := imm) (soft := soft) (ops := l.toArray) (Q := Q) (GT.of h4) keep h1 h5 l.toArray.size (perm.map fun i => (i, none)) (Array.replicate l.toArray.size false) (by simp [h2]) (by simpa [Function.comp_def] using h3)
  env σ M w.drew a (SE_of_vdr hpl (h (fun env σ => Q .normal env σ) (fun d σ => Q (.pan d) (fun _ => .top) σ) (fun _ _ h => h) (fun _ _ h => h))) hc.drew he (a0 := a) hd rfl (M0 := M) (w0 := w) (σ0 := σ) (Step.drew M w σ)
 exact this
theorem range_get {α : Type} : ∀ (l : List α), (List.range l.length).map (fun i => l.toArray[i]?) = l.map some := by
 intro l
 apply List.ext_getElem
 ·simp
 ·intro i h1 h2
  simp at h1 h2
  simp [h1]
/-- A region in whatever order, of which the text's serves. -/
theorem rgd (keep imm soft : List Nat) (gt : List (Nat × Nat)) {id : Nat} {l : List Oper} {env : Env} {σ : Store} {Q : AE → Env → Store → Prop} (hm : P.follows .mixedOrders = true) (hok : drOK nt soft l.toArray gt (List.range l.length) = true)
  (h : ∀ (κ : Env → Store → Prop) (ξ : D → Store → Prop), (∀ env σ, Q .normal env σ → κ env σ) → (∀ d σ, Q (.pan d) (fun _ => .top) σ → ξ d σ) → vdr P imm soft gt (fun env σ => κ (prune keep env) σ) ξ l env σ) : AWp P r nt (.region id l.toArray true) env σ Q :=
 rgp keep imm soft gt (List.range l.length) hm hok (range_get l) h
end
end Go.Proofs.YtfjnohmdilmfhaaGreatDoor
/- Own layer, part 16: the rules for code, loops, and a function's entry. -/
namespace Go.Proofs.YtfjnohmdilmfhaaGreatDoor
open Go Go.RowKit
set_option linter.unusedSimpArgs false
set_option linter.unusedVariables false
section
variable {P : Program} {M : Mem} {w : World} {σ : Store} {r : Option Nat} {nt : Nat}
theorem rgPost.trans {M' : Mem} {w' : World} {σ' : Store} {B : Nat × List Deferred} {Q : AE → Env → Store → Prop} (s : Step M w σ M' w' σ') : ∀ (e : Exit) (a : Act) (w'' : World), rgPost M' w' σ' nt B Q e a w'' → rgPost M w σ nt B Q e a w'' :=
 fun _ _ _ ⟨M2, env2, σ2, ae, h1, h2⟩ => ⟨M2, env2, σ2, ae, s.trans h1, h2⟩
theorem AWp.mono {c : Code} {env : Env} {Q Q' : AE → Env → Store → Prop} (h : AWp P r nt c env σ Q) (hq : ∀ e env' σ', Q e env' σ' → Q' e env' σ') : AWp P r nt c env σ Q' :=
 fun M w a B hc he hd => wpIn_mono (h M w a B hc he hd) fun _ _ _ ⟨M2, env2, σ2, ae, h1, h2, h3, h4, h5, h6⟩ => ⟨M2, env2, σ2, ae, h1, h2, h3, h4, h5, hq _ _ _ h6⟩
theorem rgPost.here {B : Nat × List Deferred} {Q : AE → Env → Store → Prop} {a : Act} {env : Env} (hc : Conc M w σ) (he : EnvR M nt env a) (hd : DefOK B σ w a.defers) {ae : AE} {e : Exit} (h : AER M ae e) (hq : Q ae env σ) : rgPost M w σ nt B Q e a w :=
 ⟨M, env, σ, ae, Step.refl _ _ _, hc, he, hd, h, hq⟩
theorem sk {env : Env} {Q : AE → Env → Store → Prop} (h : Q .normal env σ) : AWp P r nt .skip env σ Q :=
 fun _ _ _ _ hc he hd => wpIn_skip (rgPost.here hc he hd (ae := .normal) trivial h)
theorem rt {env : Env} {Q : AE → Env → Store → Prop} (h : Q .ret env σ) : AWp P r nt .ret env σ Q :=
 fun _ _ _ _ hc he hd => wpIn_ret (rgPost.here hc he hd (ae := .ret) trivial h)
theorem ex {id : Nat} {env : Env} {Q : AE → Env → Store → Prop} (h : Q (.exit id) env σ) : AWp P r nt (.exit id) env σ Q :=
 fun _ _ _ _ hc he hd => wpIn_exit (rgPost.here hc he hd (ae := .exit id) rfl h)
def thenQ (K : Env → Store → Prop) (Q : AE → Env → Store → Prop) : AE → Env → Store → Prop
 | .normal, env, σ => K env σ
 | e, env, σ => Q e env σ
theorem sq {x y : Code} {env : Env} {Q : AE → Env → Store → Prop} (h : AWp P r nt x env σ (thenQ (fun env σ => AWp P r nt y env σ Q) Q)) : AWp P r nt (.seq x y) env σ Q := by
 intro M w a B hc he hd
 refine wpIn_seq (wpIn_mono (h M w a B hc he hd) ?_)
 rintro e a' w' ⟨M2, env2, σ2, ae, h1, h2, h3, h4, h5, h6⟩
 cases e with
 | normal =>
  cases ae <;> simp only [AER] at h5
  exact wpIn_mono (h6 M2 w' a' B h2 h3 h4) (rgPost.trans h1)
 | exit i => cases ae <;> simp only [AER] at h5; exact ⟨M2, env2, σ2, .exit _, h1, h2, h3, h4, h5, h6⟩
 | goto i => cases ae <;> simp only [AER] at h5; exact ⟨M2, env2, σ2, .goto _, h1, h2, h3, h4, h5, h6⟩
 | ret => cases ae <;> simp only [AER] at h5; exact ⟨M2, env2, σ2, .ret, h1, h2, h3, h4, trivial, h6⟩
 | panic c =>
  have h5' := h5
  cases ae <;> simp only [AER] at h5
  exact ⟨M2, env2, σ2, .pan _, h1, h2, h3, h4, h5', h6⟩
 | outgrown => cases ae <;> simp only [AER] at h5
theorem cd {c : Operand} {x y : Code} {env : Env} {Q : AE → Env → Store → Prop} {b : Bool} (hb : opd env c = .bool b) (ht : b = true → AWp P r nt x env σ Q) (hf : b = false → AWp P r nt y env σ Q) : AWp P r nt (.cond c x y) env σ Q := by
 intro M w a B hc he hd
 have hr := opd_R he c
 rw [hb] at hr
 simp only [R] at hr
 exact wpIn_cond_split hr (fun e => ht e M w a B hc he hd) (fun e => hf e M w a B hc he hd)
def blockQ (id : Nat) (Q : AE → Env → Store → Prop) : AE → Env → Store → Prop
 | .exit i, env, σ => if i = id then Q .normal env σ else Q (.exit i) env σ
 | e, env, σ => Q e env σ
theorem bl {id : Nat} {c : Code} {env : Env} {Q : AE → Env → Store → Prop} (h : AWp P r nt c env σ (blockQ id Q)) : AWp P r nt (.block id c) env σ Q := by
 intro M w a B hc he hd
 refine wpIn_block (wpIn_mono (h M w a B hc he hd) ?_)
 rintro e a' w' ⟨M2, env2, σ2, ae, h1, h2, h3, h4, h5, h6⟩
 cases e with
 | normal => cases ae <;> simp only [AER] at h5; exact ⟨M2, env2, σ2, .normal, h1, h2, h3, h4, trivial, h6⟩
 | exit i =>
  cases ae <;> simp only [AER] at h5
  subst h5
  simp only [Exit.inBlock, blockQ] at h6 ⊢
  split
  ·rename_i e; rw [if_pos e] at h6; exact ⟨M2, env2, σ2, .normal, h1, h2, h3, h4, trivial, h6⟩
  ·rename_i e; rw [if_neg e] at h6; exact ⟨M2, env2, σ2, .exit _, h1, h2, h3, h4, rfl, h6⟩
 | goto i => cases ae <;> simp only [AER] at h5; exact ⟨M2, env2, σ2, .goto _, h1, h2, h3, h4, h5, h6⟩
 | ret => cases ae <;> simp only [AER] at h5; exact ⟨M2, env2, σ2, .ret, h1, h2, h3, h4, trivial, h6⟩
 | panic c =>
  have h5' := h5
  cases ae <;> simp only [AER] at h5
  exact ⟨M2, env2, σ2, .pan _, h1, h2, h3, h4, h5', h6⟩
 | outgrown => cases ae <;> simp only [AER] at h5
theorem wpIn_loop_ghost {F : Fence} {n : Nat} {Q : Exit → Act → World → Prop} {a : Act} {c : Code} (I : Nat → Act → World → Prop) (m : Nat) (h₀ : I m a w)
  (round : ∀ m a w, I m a w → c.wpIn F n P (Exit.then (fun a' w' => ∃ m', m' < m ∧ I m' a' w') Q) a w) : (Code.loop c).wpIn F n P Q a w := by
 intro b k cs hro hb hr
 have key : ∀ m a w, I m a w →
   ∃ e a' w', Q e a' w' ∧ ArrivesIn (Machine.fenced P F) P (lone (b.atR a (.code c :: .inLoop c :: k)) cs w) b k cs e a' w' := by
  intro m
  induction m using Nat.strongRecOn with
  | _ m ih =>
   intro a w hI
   obtain ⟨e, a₁, w₁, hq, harr⟩ := round m a w hI b (.inLoop c :: k) cs hro hb hr
   cases e with
   | normal =>
    obtain ⟨m', hlt, hI₁⟩ := hq
    obtain ⟨e₂, a₂, w₂, hq₂, harr₂⟩ := ih m' hlt a₁ w₁ hI₁
    exact ⟨e₂, a₂, w₂, hq₂, .of_steps (StepsIn.trans harr (.one (fenced_calm hb hr rfl) stepR_inLoop)) harr₂⟩
   | exit id => exact ⟨_, a₁, w₁, hq, .pass (x := .inLoop c) rfl (fun _ _ => .inl (by simp)) harr⟩
   | goto l => exact ⟨_, a₁, w₁, hq, .pass (x := .inLoop c) rfl (fun _ _ => .inl (by simp)) harr⟩
   | ret => exact ⟨_, a₁, w₁, hq, .pass (x := .inLoop c) rfl (fun _ _ => .inl (by simp)) harr⟩
   | panic ch => exact ⟨_, a₁, w₁, hq, .pass (x := .inLoop c) rfl (fun _ _ => .inl (by simp)) harr⟩
   | outgrown => exact ⟨_, a₁, w₁, hq, .pass (x := .inLoop c) rfl (fun _ _ => .inl (by simp)) harr⟩
 obtain ⟨e, a', w', hq, harr⟩ := key _ a w h₀
 exact ⟨e, a', w', hq, .of_steps (.one (fenced_calm hb hr rfl) stepR_loop) harr⟩
/-- What one environment tells less than another. -/
def EnvLe (E env : Env) : Prop := ∀ M i v, R M (env i) v → R M (E i) v
theorem EnvLe.R {E env : Env} {a : Act} (h : EnvLe E env) (he : EnvR M nt env a) : EnvR M nt E a := ⟨he.1, fun i => h M i _ (he.2 i)⟩
/-- A LOOP: a family of states, of which the one at hand is one, each round leading to one of a lesser measure. -/
theorem lp {α : Type} (E : α → Env) (S : α → Store) (ok : α → Prop) (μ : α → Nat) (x0 : α) {c : Code} {env : Env} {Q : AE → Env → Store → Prop} (h0 : ok x0 ∧ EnvLe (E x0) env ∧ (S x0).Sublist σ)
  (h : ∀ x, ok x → AWp P r nt c (E x) (S x) (thenQ (fun env' σ' => ∃ y, (ok y ∧ μ y < μ x) ∧ EnvLe (E y) env' ∧ (S y).Sublist σ') Q)) : AWp P r nt (.loop c) env σ Q := by
 intro M w a B hc he hd
 obtain ⟨hok, hle, hsub⟩ := h0
 have hkeys : (S x0).keys.Sublist σ.keys := hsub.map Prod.fst
 refine wpIn_loop_ghost (fun m a' w' => ∃ x M', ok x ∧ μ x = m ∧ Step M w σ M' w' (S x) ∧ Conc M' w' (S x) ∧ EnvR M' nt (E x) a' ∧ DefOK B (S x) w' a'.defers) (μ x0)
  ⟨x0, M, hok, rfl, (Step.refl _ _ _).sub hsub, hc.sub hsub, hle.R he, by obtain ⟨hB, Ds, e, hn, hh⟩ := hd; exact ⟨hB, Ds, e, hn, fun D hD => ⟨(hh D hD).1, (hh D hD).2.1, fun hk => (hh D hD).2.2 (hkeys.subset hk)⟩⟩⟩ ?_
 rintro m a' w' ⟨x, M', hx, rfl, s1, c1, e1, d1⟩
 refine wpIn_mono (h x hx M' w' a' B c1 e1 d1) ?_
 rintro e a2 w2 ⟨M2, env2, σ2, ae, h1, h2, h3, h4, h5, h6⟩
 cases e with
 | normal =>
  cases ae <;> simp only [AER] at h5
  obtain ⟨y, ⟨hy, hlt⟩, hl2, hs2⟩ := h6
  have hk2 : (S y).keys.Sublist σ2.keys := hs2.map Prod.fst
  exact ⟨μ y, hlt, y, M2, hy, rfl, (s1.trans h1).sub hs2, h2.sub hs2, hl2.R h3, by obtain ⟨hB, Ds, e, hn, hh⟩ := h4; exact ⟨hB, Ds, e, hn, fun D hD => ⟨(hh D hD).1, (hh D hD).2.1, fun hk => (hh D hD).2.2 (hk2.subset hk)⟩⟩⟩
 | exit i => cases ae <;> simp only [AER] at h5; exact ⟨M2, env2, σ2, .exit _, s1.trans h1, h2, h3, h4, h5, h6⟩
 | goto i => cases ae <;> simp only [AER] at h5; exact ⟨M2, env2, σ2, .goto _, s1.trans h1, h2, h3, h4, h5, h6⟩
 | ret => cases ae <;> simp only [AER] at h5; exact ⟨M2, env2, σ2, .ret, s1.trans h1, h2, h3, h4, trivial, h6⟩
 | panic c =>
  have h5' := h5
  cases ae <;> simp only [AER] at h5
  exact ⟨M2, env2, σ2, .pan _, s1.trans h1, h2, h3, h4, h5', h6⟩
 | outgrown => cases ae <;> simp only [AER] at h5
/-- What is known may be forgotten. -/
theorem weak {c : Code} {env : Env} (E : Env) {σ' : Store} {Q : AE → Env → Store → Prop} (hle : EnvLe E env) (hsub : σ'.Sublist σ) (h : AWp P r nt c E σ' Q) : AWp P r nt c env σ Q := by
 intro M w a B hc he hd
 have hk : σ'.keys.Sublist σ.keys := hsub.map Prod.fst
 have hd' : DefOK B σ' w a.defers := by obtain ⟨hB, Ds, e, hn, hh⟩ := hd; exact ⟨hB, Ds, e, hn, fun D hD => ⟨(hh D hD).1, (hh D hD).2.1, fun hk' => (hh D hD).2.2 (hk.subset hk')⟩⟩
 exact wpIn_mono (h M w a B (hc.sub hsub) (hle.R he) hd') (rgPost.trans ((Step.refl M w σ).sub hsub))
/-! ### A function -/
def resV (P : Program) (σ : Store) (env : Env) : ResultVar → PD
 | .tmp t => (True, env t)
 | .cell t T => qload P σ T (env t)
def resAll (P : Program) (σ : Store) (env : Env) : List ResultVar → Prop
 | [] => True
 | r :: rs => (resV P σ env r).1 ∧ resAll P σ env rs
def resD (P : Program) (σ : Store) (env : Env) (rs : List ResultVar) : PD :=
 match rs with
 | [r] => resV P σ env r
 | rs => (resAll P σ env rs, .tup (rs.map fun r => (resV P σ env r).2))
def argEnv : List D → Nat → List (Nat × D)
 | [], _ => []
 | d :: ds, i => (i, d) :: argEnv ds (i + 1)
def retQ (P : Program) (rs : List ResultVar) (Q : Res → Store → Prop) : AE → Env → Store → Prop
 | .normal, env, σ => (resD P σ env rs).1 ∧ ∃ σ' : Store, σ'.Sublist σ ∧ Q (.ret (resD P σ env rs).2) σ'
 | .ret, env, σ => (resD P σ env rs).1 ∧ ∃ σ' : Store, σ'.Sublist σ ∧ Q (.ret (resD P σ env rs).2) σ'
 | .pan d, _, σ => ∃ σ' : Store, σ'.Sublist σ ∧ Q (.pan d) σ'
 | _, _, _ => False
theorem asAddr_of_load {T : TypeId} {a v : Value} (h : (Instr.loadAt T a).run P w = .ok v w) : (do loadVar T (← asAddr a) : Sem Value).run P w = .ok v w := by
 cases a with
 | pointer x =>
  cases x with
  | some a => exact h
  | none => simp only [Instr.loadAt, Instr.sureAddr, Sem.run_bind] at h; cases h
 | _ => simp only [Instr.loadAt, Instr.sureAddr, Sem.run_bind] at h; cases h
theorem run_results {fn : Func} {rs : List ResultVar} (hres : fn.results = List.toArray rs) {env : Env} {a : Act} (hc : Conc M w σ) (he : EnvR M nt env a) (hq : (resD P σ env rs).1) :
  ∃ v, (results fn a.tmps).run P w = .ok v w ∧ R M (resD P σ env rs).2 v := by
 have one : ∀ f : ResultVar → Sem Value, (∀ t, f (.tmp t) = pure (a.tmps.getD t undef)) → (∀ b t, f (.cell b t) = do loadVar t (← asAddr (a.tmps.getD b undef))) → ∀ r : ResultVar, (resV P σ env r).1 → ∃ v, (f r).run P w = .ok v w ∧ R M (resV P σ env r).2 v := by
  intro f f1 f2 r h
  cases r with
  | tmp t => rw [f1]; exact ⟨_, rfl, he.2 t⟩
  | cell t T =>
   obtain ⟨v, h1, h2⟩ := load_sound hc h (he.2 t)
   rw [f2]
   exact ⟨v, asAddr_of_load h1, h2⟩
 have all : ∀ f : ResultVar → Sem Value, (∀ t, f (.tmp t) = pure (a.tmps.getD t undef)) → (∀ b t, f (.cell b t) = do loadVar t (← asAddr (a.tmps.getD b undef))) → ∀ ts : List ResultVar, resAll P σ env ts → ∃ vs, (ts.mapM f).run P w = .ok vs w ∧ RAll M (ts.map fun r => (resV P σ env r).2) vs := by
  intro f f1 f2 ts
  induction ts with
  | nil => intro _; exact ⟨[], rfl, by simp [RAll]⟩
  | cons t ts ih =>
   intro h
   obtain ⟨v, h1, h2⟩ := one f f1 f2 t h.1
   obtain ⟨vs, h3, h4⟩ := ih h.2
   exact ⟨v :: vs, by simp only [List.mapM_cons, Sem.run_bind, h1, Result.andThen_ok, h3, Sem.run_pure], by simp only [List.map_cons, RAll]; exact ⟨h2, h4⟩⟩
 have core : ∀ f : ResultVar → Sem Value, (∀ t, f (.tmp t) = pure (a.tmps.getD t undef)) → (∀ b t, f (.cell b t) = do loadVar t (← asAddr (a.tmps.getD b undef))) →
   ∃ v, (do let vs ← (List.toArray rs).mapM f; pure (if h : vs.size = 1 then vs[0] else .tuple vs) : Sem Value).run P w = .ok v w ∧ R M (resD P σ env rs).2 v := by
  intro f f1 f2
  simp only [Array.mapM_eq_mapM_toList, Sem.run_bind, Sem.run_map, Sem.run_pure]
  cases rs with
  | nil => exact ⟨_, rfl, by simp only [resD, R]; exact ⟨[], rfl, by simp [RAll]⟩⟩
  | cons t ts =>
   cases ts with
   | nil =>
    simp only [List.mapM_cons, List.mapM_nil, Sem.run_bind]
    obtain ⟨v, h1, h2⟩ := one f f1 f2 t hq
    refine ⟨v, ?_, h2⟩
    rw [h1]
    rfl
   | cons u ts =>
    obtain ⟨vs, h1, h2⟩ := all f f1 f2 (t :: u :: ts) hq
    rw [h1]
    simp only [Result.andThen_ok]
    have hl := h2.length
    simp only [List.map_cons, List.length_cons] at hl
    rw [dif_neg (by simp; omega)]
    exact ⟨_, rfl, by simp only [resD, R]; exact ⟨vs, rfl, h2⟩⟩
 unfold results
 rw [hres]
 refine core _ ?_ ?_ <;> intros <;> rfl
/-- The marks are taken at the function's end. -/
theorem leaves_marks {fn : Func} {tmps : Array Value} {R' : Ending → World → Prop} {u : FrameMode} (hu : u ≠ .run) {M0 : Mem} {w0 : World} {σ0 : Store} : ∀ (Ds : List Nat) (M : Mem) (w : World) (σ : Store), Step M0 w0 σ0 M w σ → Conc M w σ → Ds.Nodup →
  (∀ D ∈ Ds, w0.heap.size ≤ D ∧ w.heap[D]? = some (.deferred (some [])) ∧ D ∉ σ.keys) →
  (∀ w', Step M0 w0 σ0 M w' σ → Conc M w' σ → LeavesIn (WF none) 0 P fn tmps R' [] u w') →
  LeavesInM (WF none) 0 P fn tmps R' (Ds.map fun D => { target := .collected D, args := #[] }) u w
 | [], M, w, σ, hs, hc, _, _, h => h w hs hc
 | D :: Ds, M, w, σ, hs, hc, hn, hD, h => by
  simp only [List.nodup_cons] at hn
  obtain ⟨h1, h2, h3⟩ := hD D (by simp)
  have hlt : D < w.heap.size := (Array.getElem?_eq_some_iff.1 h2).1
  have hother : ∀ k, k ≠ D → (w.putObj D (.deferred none)).heap[k]? = w.heap[k]? := fun k hk => World.putObj_heap_other hk
  refine ⟨hu, .inl ⟨D, _, rfl, run_takeDeferred h2, ?_⟩⟩
  have hc' : Conc M (w.putObj D (.deferred none)) σ := by
   refine ⟨fun b o v hv => ?_, hc.nodup, fun b x hb => ?_, hc.glob.other h2 hother⟩
   ·have hcell := hc.mem b o v hv
    have hne : b ≠ D := by
     intro e; subst e
     simp only [World.cell?, h2] at hcell
     cases hcell
    simp only [World.cell?, hother b hne]
    exact hcell
   ·have hne : b ≠ D := fun e => h3 (e ▸ List.mem_map_of_mem (f := Prod.fst) hb)
    exact (hc.box b x hb).mono (Mem.le.refl _) (fun _ _ h => h) (hother b hne)
  refine leaves_marks hu Ds M _ σ ?_ hc' hn.2 (fun D' hD' => ?_) h
  ·exact ⟨hs.le, hs.os, hs.tape, hs.output, (by rw [World.putObj_size]; exact hs.size), fun b hb hk => (hother b (fun e => by omega)).trans (hs.block b hb hk), hs.keys, hs.grow⟩
  ·obtain ⟨e1, e2, e3⟩ := hD D' (List.mem_cons_of_mem _ hD')
   exact ⟨e1, (hother D' (fun e => hn.1 (e ▸ hD'))).trans e2, e3⟩
theorem argEnv_R : ∀ (args : List D) (vs : List Value) (k i : Nat) (tmps : Array Value), RAll M args vs → (∀ j v, vs[j]? = some v → tmps.getD (k + j) undef = v) → R M (mk (argEnv args k) i) (tmps.getD i undef)
 | [], _, k, i, tmps, _, _ => by simp only [argEnv, mk, R]
 | d :: ds, [], _, _, _, h, _ => by simp [RAll] at h
 | d :: ds, v :: vs, k, i, tmps, h, ht => by
  simp only [RAll] at h
  simp only [argEnv, mk]
  split
  ·rename_i e; subst e
   rw [show tmps.getD i undef = v from by simpa using ht 0 v rfl]
   exact h.1
  ·exact argEnv_R ds vs (k + 1) i tmps h.2 fun j u hu => by
    have := ht (j + 1) u (by simpa using hu)
    rwa [show k + 1 + j = k + (j + 1) from by omega]
theorem callFunc_enter {f : Nat} {fn : Func} (hf : P.funcs[f]? = some fn) (hb : fn.body.isNone = false) (hname : (fn.name == "runtime.NumGoroutine") = false) (args : Array Value) : (callFunc f args).run P w = .ok (.enter f args) w := by
 unfold callFunc
 simp only [Sem.run_bind, run_program, Result.andThen_ok, hf, hname, Bool.false_eq_true, if_false, hb, Sem.run_pure]
/-- A FUNCTION's CONTRACT out of its body. -/
theorem fn_ {f : Nat} {fn : Func} {c : Code} {rs : List ResultVar} {args : List D} {Q : Res → Store → Prop} (hf : P.funcs[f]? = some fn) (hb : fn.body = some c) (hname : (fn.name == "runtime.NumGoroutine") = false)
  (hres : fn.results = List.toArray rs) (hn : args.length ≤ fn.ntmps) (h : AWp P none fn.ntmps c (mk (argEnv args 0)) σ (retQ P rs Q)) : ACall P (.func f) args σ Q := by
 intro M w vs hc hr
 have hlen := hr.length
 refine .inl ⟨callFunc_enter hf (by rw [hb]; rfl) hname _, ?_⟩
 have key : CallsIn (WF none) 0 P f (List.toArray vs) w fun e w' => ∃ M' σ' r, Step M w σ M' w' σ' ∧ Conc M' w' σ' ∧ ResR M' r e ∧ Q r σ' := by
  refine callsIn_of_wp_marks hf hb trivial ?_
  have he : EnvR M fn.ntmps (mk (argEnv args 0)) { tmps := List.toArray vs ++ Array.replicate (fn.ntmps - (List.toArray vs).size) undef, defers := [] } := by
   refine ⟨by simp; omega, fun i => argEnv_R args vs 0 i _ hr fun j v hj => ?_⟩
   have hjl := (List.getElem?_eq_some_iff.1 hj).1
   rw [Nat.zero_add, Array.getD_eq_getD_getElem?, Array.getElem?_append_left (by simpa using hjl)]
   simp [hj]
  refine wpIn_mono (h M w _ (w.heap.size, []) hc he (DefOK.nil (Nat.le_refl _))) ?_
  rintro e a' w' ⟨M2, env2, σ2, ae, h1, h2, h3, ⟨_, Ds, hd1, hd2, hd3⟩, h5, h6⟩
  have fin : ∀ (x : retQ P rs Q .ret env2 σ2), LeavesInM (WF none) 0 P fn a'.tmps (fun e w' => ∃ M' σ' r, Step M w σ M' w' σ' ∧ Conc M' w' σ' ∧ ResR M' r e ∧ Q r σ') a'.defers .returning w' := by
   rintro ⟨hres1, σ3, s3, hq⟩
   rw [hd1, List.append_nil]
   refine leaves_marks (by simp) Ds M2 w' σ2 h1 h2 hd2 hd3 fun w3 st3 c3 => ?_
   obtain ⟨v, r1, r2⟩ := run_results (P := P) (w := w3) hres c3 h3 hres1
   exact ⟨v, r1, M2, σ3, .ret _, st3.sub s3, c3.sub s3, r2, hq⟩
  cases e with
  | normal => cases ae <;> simp only [AER] at h5; exact fin h6
  | ret => cases ae <;> simp only [AER] at h5; exact fin h6
  | exit i => cases ae <;> simp only [AER] at h5; exact h6.elim
  | goto i => cases ae <;> simp only [AER] at h5; exact h6.elim
  | panic ch =>
   have h5' := h5
   cases ae <;> simp only [AER] at h5
   obtain ⟨σ3, s3, hq⟩ := h6
   show LeavesInM _ _ _ _ _ _ a'.defers (.panicking ch) w'
   rw [hd1, List.append_nil]
   refine leaves_marks (by simp) Ds M2 w' σ2 h1 h2 hd2 hd3 fun w3 st3 c3 => ?_
   exact ⟨M2, σ3, .pan _, st3.sub s3, c3.sub s3, by
     cases ch with
     | nil => exact h5'.elim
     | cons c cs =>
       cases cs with
       | cons _ _ => exact h5'.elim
       | nil => exact h5', hq⟩
  | outgrown => cases ae <;> simp only [AER] at h5
 exact key
end
end Go.Proofs.YtfjnohmdilmfhaaGreatDoor

/- Words of this session's own for walks: what a call changes (Mod), and small facts on blocks. No Go in it. -/
import Derived.Test.YtepklobkppdliaaDoorProg
import Derived.Test.YtepklobkppdliaaDoorVW
import Derived.Deep.MidRow
namespace Go.Proofs.YtepklobkppdliaaDoor.Lib
open Go.RowKit Go.Proofs.YtepklobkppdliaaDoorW.PrintWords Go.Proofs.YtepklobkppdliaaDoorW.PrintLast

/-- Blocks of S alone have been changed; no block has gone. -/
structure Mod (S : Nat → Prop) (w w' : World) : Prop where
  os : w'.os = w.os
  tape : w'.tape = w.tape
  output : w'.output = w.output
  size : w.heap.size ≤ w'.heap.size
  block : ∀ k, k < w.heap.size → ¬ S k → w'.heap[k]? = w.heap[k]?
section
variable {S S2 : Nat → Prop} {w W W2 : World} {B : Nat}
theorem Mod.refl (S : Nat → Prop) (w : World) : Mod S w w := ⟨rfl, rfl, rfl, Nat.le_refl _, fun _ _ _ => rfl⟩
theorem Mod.of_below (h : Below w.heap.size w W) (S : Nat → Prop) : Mod S w W := ⟨h.os, h.tape, h.output, h.size, fun k hk _ => h.block k hk⟩
theorem Mod.mono (h : Mod S w W) (hs : ∀ k, S k → S2 k) : Mod S2 w W := ⟨h.os, h.tape, h.output, h.size, fun k hk hn => h.block k hk (fun hS => hn (hs k hS))⟩
theorem Mod.trans (h : Mod S w W) (k : Mod S2 W W2) (hs : ∀ k, S2 k → S k ∨ w.heap.size ≤ k) : Mod S w W2 :=
  ⟨k.os.trans h.os, k.tape.trans h.tape, k.output.trans h.output, Nat.le_trans h.size k.size, fun i hi hn =>
    (k.block i (Nat.lt_of_lt_of_le hi h.size) (fun h2 => (hs i h2).elim hn (fun h3 => by omega))).trans (h.block i hi hn)⟩
theorem Mod.of_grown {row : Option Nat} (hg : w.grownBy W row) : Mod (fun k => some k = row) w W :=
  ⟨hg.os, hg.tape, hg.output, hg.size, fun k hk hn => hg.block k hk hn⟩
theorem Mod.grown {row : Option Nat} (h : Mod S w W) (hg : W.grownBy W2 row) (hr : ∀ k, row = some k → S k ∨ w.heap.size ≤ k) : Mod S w W2 :=
  h.trans (Mod.of_grown hg) (fun k hk => hr k hk.symm)
theorem Mod.then_below (h : Mod S w W) (hb : Below W.heap.size W W2) : Mod S w W2 := h.trans (Mod.of_below hb (fun _ => False)) (fun _ hk => hk.elim)
theorem Mod.alloc (h : Mod S w W) (o : Obj) : Mod S w (W.alloc o) := h.then_below (below_alloc (Below.refl _ _) o)
theorem Mod.drew (h : Mod S w W) : Mod S w W.drew := ⟨h.os, h.tape, h.output, h.size, h.block⟩
theorem Mod.drewN (h : Mod S w W) (m : Nat) : Mod S w (W.drewN m) := ⟨h.os, h.tape, h.output, h.size, h.block⟩
theorem Mod.setCell (h : Mod S w W) {p : Addr} (hp : S p.block ∨ w.heap.size ≤ p.block) (u : Value) : Mod S w (W.setCell p u) :=
  h.trans (S2 := fun k => k = p.block) ⟨rfl, rfl, rfl, by simp [World.setCell], fun i _ hn => Below.heap_setCell W p u i hn⟩ (fun k hk => by rw [hk]; exact hp)
theorem Mod.below (h : Mod S w W) (hs : ∀ k, S k → B ≤ k) (_hB : B ≤ w.heap.size) : Below B w W :=
  ⟨h.os, h.tape, h.output, h.size, fun k hk => by
    by_cases hl : k < w.heap.size
    · exact h.block k hl (fun hS => by have := hs k hS; omega)
    · omega⟩
/-- Nothing that was there has been changed. -/
theorem Mod.below_all (h : Mod S w W) (hs : ∀ k, S k → w.heap.size ≤ k) : Below w.heap.size w W := h.below hs (Nat.le_refl _)
/-- Behind what had been begun below B. -/
theorem Mod.after {w0 : World} (hb : Below B w0 w) (hB : B ≤ w.heap.size) (h : Mod S w W) (hs : ∀ k, S k → B ≤ k) : Below B w0 W := hb.trans (h.below hs hB)
theorem Mod.tight (h : Mod (fun k => S k ∨ w.heap.size ≤ k) w W) : Mod S w W := ⟨h.os, h.tape, h.output, h.size, fun k hk hn => h.block k hk (fun hS => hS.elim hn (fun h2 => by omega))⟩
theorem Mod.blk (h : Mod S w W) {g : Nat} {o : Obj} (hb : w.heap[g]? = some o) (hg : ¬ S g) : W.heap[g]? = some o := (h.block g (blk_lt hb) hg).trans hb
theorem Mod.own (h : Mod S w W) {base : Nat} {e : TypeId} {size n : Nat} {v : Value} {xs : List Value} (ho : w.ownsRow base e size v n xs) (hv : ∀ k, v.ownBlock = some k → ¬ S k) : W.ownsRow base e size v n xs := by
  refine own_move ho (fun k hk => h.block k (own_lt ho k hk) (hv k hk))
end
section
variable {P : Program} {ops : Array Oper} {rest : List Oper} {o : Oper} {a : Act} {Q : Exit → Act → World → Prop}
/-- A block known whole is written anew from its head. -/
theorem ev_store_row {W : World} (op : Op) (ho' : o.op = op) (hgd : o.guard = none) (hN : o.dst = none) (ty : TypeId) (x y : Operand) (ho : op = .store ty x y)
    (g : Nat) (cells : Array Value) (hx : a.eval x = .pointer (some ⟨g, 0, none⟩)) (hy : a.eval y = .agg cells)
    (t : TypeId) (old : Array Value) (hg : W.heap[g]? = some (.cells old t (0, 0))) (hi : (P.info? ty).map (·.size) = some cells.size)
    (hold : old.size = cells.size) (h1 : cells.all (·.oneCell') = true)
    (h : ∀ w1, w1.heap[g]? = some (.cells cells t (0, 0)) → Mod (fun k => k = g) W w1 → wpList P ops Q rest a w1) : wpList P ops Q (o :: rest) a W := by
  refine wpList_store_row hgd ty x y (ho'.trans ho) g cells hx hy t old hg hi hold h1 ?_
  rw [hN]
  refine h _ ?_ ⟨rfl, rfl, rfl, by simp [World.setRow], fun k _ hk => ?_⟩
  · exact setRow_heap W g old cells t (0, 0) hg
  · exact setRow_other W g k cells hk
/-- A struct is read from the middle of a block. -/
theorem ev_load_mid {W : World} (op : Op) (ho' : o.op = op) (hgd : o.guard = none) (ty : TypeId) (x : Operand) (ho : op = .load ty x)
    (b off : Nat) (hx : a.eval x = .pointer (some ⟨b, off, none⟩)) (cs : List Value) (d : TypeDesc) (hc : W.rangeAt b off cs)
    (hu : P.underlying ty = some d) (hd : d.isRow = true) (hi : (P.info? ty).map (·.size) = some cs.length)
    (h : wpList P ops Q rest (a.put o.dst (.agg cs.toArray)) W) : wpList P ops Q (o :: rest) a W :=
  wpList_load_mid hgd ty x (ho'.trans ho) b off hx cs d hc hu hd hi h
/-- A struct is read from a block known whole. -/
theorem ev_load_row {W : World} (op : Op) (ho' : o.op = op) (hgd : o.guard = none) (ty : TypeId) (x : Operand) (ho : op = .load ty x)
    (g : Nat) (hx : a.eval x = .pointer (some ⟨g, 0, none⟩)) (t : TypeId) (cs : Array Value) (d : TypeDesc) (hg : W.heap[g]? = some (.cells cs t (0, 0)))
    (hu : P.underlying ty = some d) (hd : (match d with | .struct _ | .array _ _ => true | _ => false) = true) (hi : (P.info? ty).map (·.size) = some cs.size)
    (h : wpList P ops Q rest (a.put o.dst (.agg cs)) W) : wpList P ops Q (o :: rest) a W :=
  wpList_load_row hgd ty x (ho'.trans ho) g hx t cs (0, 0) d hg hu hd hi h
end
section
variable {P : Program} {ops : Array Oper} {rest : List Oper} {o : Oper} {a : Act} {Q : Exit → Act → World → Prop}
/-- A literal slice: a new block. -/
theorem ev_lit {W : World} (op : Op) (_ho' : o.op = op) (hgd : o.guard = none) (n : Nat) (cs : Array Value) (e : TypeId)
    (hrun : (execOp a.eval o).run P W = .ok (.value (.slice (some ⟨W.heap.size, 0, none⟩) n n)) (W.alloc (.cells cs e (0, 0))))
    (h : ∀ g, g = W.heap.size → ∀ w1, w1.heap[g]? = some (.cells cs e (0, 0)) → Below W.heap.size W w1 → wpList P ops Q rest (a.put o.dst (.slice (some ⟨g, 0, none⟩) n n)) w1) : wpList P ops Q (o :: rest) a W :=
  Kd.event_run hgd hrun (h _ rfl _ (blk_new W _) (below_alloc (Below.refl _ _) _))
/-- append(v, x...) onto a row of the call's own. -/
theorem ev_append {W : World} (s x : Operand) (t e : TypeId) (ho' : o.op = .call { callee := .builtin .append, args := #[s, x], argTypes := #[t, t] }) (hgd : o.guard = none)
    (base : Nat) (z : Value) (size bytes : Nat) (ht : P.underlying t = some (.slice e)) (hinfo : (P.info? e).map (fun i => (i.zero, i.size, i.bytes)) = some (some z, size, bytes)) (hz : z.cells.size = size) (hs0 : 0 < size)
    (v : Value) (n : Nat) (xs : List Value) (hs : a.eval s = v) (hown : W.ownsRow base e size v n xs)
    (ad : Addr) (m c : Nat) (news : List Value) (hx : a.eval x = .slice (some ad) m c) (hl : news.length = m * size) (hnews : ∀ j u, news[j]? = some u → W.cell? (ad.add j) = some u) (h1 : ∀ u ∈ news, u.oneCell' = true)
    (h63 : n + m ≤ maxLen) (hbytes : (n + m) * bytes ≤ 140737488355328) (hbase : base ≤ W.heap.size)
    (h : ∀ v' w', w'.ownsRow base e size v' (n + m) (xs ++ news) → Mod (fun k => some k = v.ownBlock) W w' → (v' = .slice none 0 0 ↔ v = .slice none 0 0 ∧ m = 0) → (v'.ownBlock = v.ownBlock ∨ v'.ownBlock = some W.heap.size) → wpList P ops Q rest (a.put o.dst v') w') :
    wpList P ops Q (o :: rest) a W := by
  obtain ⟨i0, hi, hzz⟩ := Option.map_eq_some_iff.1 hinfo
  simp only [Prod.mk.injEq] at hzz
  obtain ⟨hz0, hz1, hz2⟩ := hzz
  exact wpList_append_own_at W hgd s x t ho' base e i0 z size bytes ht hi hz0 hz1 hz2 hz hs0 v n xs hs hown ad m c news hx hl hnews h1 h63 hbytes hbase (fun v' w' a1 a2 a3 a4 => h v' w' a1 (Mod.of_grown a2) a3 a4)
end
section
variable {P : Program} {ops : Array Oper} {o : Oper} {a : Act} {Q : Exit → Act → World → Prop} {K : Act → World → Prop}
/-- .. as one step of a region that draws its order (for 'go_region_law'). -/
theorem st_append {W : World} {D : Prop} (s x : Operand) (t e : TypeId) (ho' : o.op = .call { callee := .builtin .append, args := #[s, x], argTypes := #[t, t] }) (hw : Region.wanted o (yielded ops a.tmps) = true)
    (base : Nat) (z : Value) (size bytes : Nat) (ht : P.underlying t = some (.slice e)) (hinfo : (P.info? e).map (fun i => (i.zero, i.size, i.bytes)) = some (some z, size, bytes)) (hz : z.cells.size = size) (hs0 : 0 < size)
    (v : Value) (n : Nat) (xs : List Value) (hs : a.eval s = v) (hown : W.ownsRow base e size v n xs)
    (ad : Addr) (m c : Nat) (news : List Value) (hx : a.eval x = .slice (some ad) m c) (hl : news.length = m * size) (hnews : ∀ j u, news[j]? = some u → W.cell? (ad.add j) = some u) (h1 : ∀ u ∈ news, u.oneCell' = true)
    (h63 : n + m ≤ maxLen) (hbytes : (n + m) * bytes ≤ 140737488355328) (hbase : base ≤ W.heap.size)
    (h : ∀ v' w', w'.ownsRow base e size v' (n + m) (xs ++ news) → Mod (fun k => some k = v.ownBlock) W w' → (v' = .slice none 0 0 ↔ v = .slice none 0 0 ∧ m = 0) → (v'.ownBlock = v.ownBlock ∨ v'.ownBlock = some W.heap.size) → K (a.put o.dst v') w') :
    if Region.wanted o (yielded ops a.tmps) = true then Oper.wp P o a W K Q else D := by
  obtain ⟨i0, hi, hzz⟩ := Option.map_eq_some_iff.1 hinfo
  simp only [Prod.mk.injEq] at hzz
  obtain ⟨hz0, hz1, hz2⟩ := hzz
  rw [if_pos hw]
  obtain ⟨v', w', hr, h2, h3, h4, h5⟩ := run_append_own_at (P := P) W base t o.type e i0 z size bytes ht hi hz0 hz1 hz2 hz hs0 v n xs hown ad m c news hl hnews h1 h63 hbytes hbase
  unfold Oper.wp execOp
  simp only [ho', resolve, invoke, builtin, Sem.run_bind, Sem.run_pure, Result.andThen_ok, List.map_toArray, List.map_cons, List.map_nil, hs, hx, hr]
  exact h v' w' h2 (Mod.of_grown h3) h4 h5
end
section
variable {P : Program} {ops : Array Oper} {rest : List Oper} {o : Oper} {a : Act} {Q : Exit → Act → World → Prop}
/-- A struct is stored into the middle of a block of the walk's own; what the block held is let go. -/
theorem ev_store_mid {W : World} (op : Op) (ho' : o.op = op) (hgd : o.guard = none) (hN : o.dst = none) (ty : TypeId) (x y : Operand) (ho : op = .store ty x y)
    (g off : Nat) (cells : Array Value) (hx : a.eval x = .pointer (some ⟨g, off, none⟩)) (hy : a.eval y = .agg cells)
    (t : TypeId) (cur : Array Value) (hg : W.heap[g]? = some (.cells cur t (0, 0))) (hfit : off + cells.size ≤ cur.size) (hi : (P.info? ty).map (·.size) = some cells.size) (h1 : cells.all (·.oneCell') = true)
    (h : ∀ cur' w1, w1.heap[g]? = some (.cells cur' t (0, 0)) → cur'.size = cur.size → cur'.toList = cur.toList.take off ++ cells.toList ++ cur.toList.drop (off + cells.size) → Mod (fun k => k = g) W w1 → wpList P ops Q rest a w1) : wpList P ops Q (o :: rest) a W := by
  refine wpList_store_mid hgd ty x y (ho'.trans ho) g off cells hx hy (fun j hj => ⟨by rw [blk_cell hg, Array.getElem?_eq_getElem (by omega)]; rfl, blk_frozen hg _⟩) hi h1 ?_
  rw [hN]
  obtain ⟨h2, h3, h4, h5⟩ := setCells_same g cells.toList off W
  obtain ⟨cur', h6, h7, h8⟩ := setCells_row cells.toList off W cur hg (by rw [Array.length_toList]; exact hfit)
  exact h cur' _ h6 h7 (by rw [h8, Array.length_toList]) ⟨h2, h3, h4, Nat.le_of_eq h5.symm, fun k _ hk => setCells_far _ _ k hk⟩
end
section
variable {P : Program} {ops : Array Oper} {rest : List Oper} {o : Oper} {a : Act} {Q : Exit → Act → World → Prop}
end
theorem own_empty {W : World} {base g : Nat} {e : TypeId} {size : Nat} (hb : base ≤ g) (h : W.heap[g]? = some (.cells #[] e (0, 0))) : W.ownsRow base e size (.slice (some ⟨g, 0, none⟩) 0 0) 0 [] :=
  ⟨by simp, .inr ⟨g, 0, #[], rfl, hb, h, Nat.le_refl _, Nat.zero_le _, by simp, by simp⟩⟩
/-- What a row of the call's own holds, as the cells that are appended. -/
theorem news_of_own {W : World} {base g n c : Nat} {e : TypeId} {size : Nat} {xs : List Value} (h : W.ownsRow base e size (.slice (some ⟨g, 0, none⟩) n c) n xs) : ∀ j u, xs[j]? = some u → W.cell? ((⟨g, 0, none⟩ : Addr).add j) = some u := by
  intro j u hu
  rw [add_plain, h.cellAt j (by have := (List.getElem?_eq_some_iff.1 hu).1; have := h.1; omega)]
  exact hu
theorem range_of_own {w : World} {B g n cap : Nat} {e : TypeId} {size : Nat} {xs : List Value} (h : w.ownsRow B e size (.slice (some ⟨g, 0, none⟩) n cap) n xs) (off : Nat) (c : List Value) (hc : ∀ j u, c[j]? = some u → xs[off + j]? = some u) (hl : off + c.length ≤ n * size) : w.rangeAt g off c := by
  intro j v hv
  have hj := (List.getElem?_eq_some_iff.1 hv).1
  rw [h.cellAt _ (by omega)]
  exact hc j v hv
/-- Elements of one size, one behind the other. -/
theorem flat_at {α : Type} (cl : α → List Value) (s : Nat) (hs : ∀ x, (cl x).length = s) (xs : List α) (i : Nat) (x : α) (hx : xs[i]? = some x) (j : Nat) (u : Value) (hu : (cl x)[j]? = some u) : (xs.flatMap cl)[i * s + j]? = some u := by
  induction xs generalizing i with
  | nil => simp at hx
  | cons y ys ih =>
    rw [List.flatMap_cons]
    cases i with
    | zero =>
      simp only [List.getElem?_cons_zero, Option.some.injEq] at hx
      subst hx
      rw [Nat.zero_mul, Nat.zero_add, List.getElem?_append_left (List.getElem?_eq_some_iff.1 hu).1]
      exact hu
    | succ i =>
      rw [List.getElem?_cons_succ] at hx
      rw [List.getElem?_append_right (by rw [hs, Nat.succ_mul]; omega), hs, Nat.succ_mul, show i * s + s + j - s = i * s + j by omega]
      exact ih i hx
theorem flat_length {α : Type} (cl : α → List Value) (s : Nat) (hs : ∀ x, (cl x).length = s) (xs : List α) : (xs.flatMap cl).length = xs.length * s := by
  induction xs with
  | nil => simp
  | cons x xs ih => rw [List.flatMap_cons, List.length_append, ih, hs, List.length_cons, Nat.succ_mul]; omega
end Go.Proofs.YtepklobkppdliaaDoor.Lib

/- Words of this session's own for walks: what a call changes (Mod), and small facts on blocks. No Go in it. More words for walks: make; a row's cells of one value each. No Go in it. Arguments opened: a slice whose elements are structs (of structs) of numbers, texts and truth values: its cells, element by element. No Go in it. Regions that draw their order and write memory: one walk of the order of the text serves every order, where each operation keeps a class of worlds that knows which operations are done. No Go in it. Regions that draw their order: the class of worlds in which two blocks are written whole; results that lie in cells. No Go in it. -/
import Derived.Test.YtepklobkppdliaaDoorProg
import Derived.Test.YtepklobkppdliaaDoorUW
import Derived.Deep.MidRow
import Derived.Deep.Slices
import Derived.Still
import Derived.Deep.Draws
section
namespace Go.Proofs.YtepklobkppdliaaDoor.Lib
open Go.RowKit Go.Proofs.YtepklobkppdliaaDoorW.PrintWords Go.Proofs.YtepklobkppdliaaDoorW.PrintLast

/-- Blocks of S alone have been changed; no block has gone. -/
structure Mod (S : Nat → Prop) (w w' : World) : Prop where
  os : w'.os = w.os
  tape : w'.tape = w.tape
  output : w'.output = w.output
  size : w.heap.size ≤ w'.heap.size
  block : ∀ k, k < w.heap.size → ¬ S k → w'.heap[k]? = w.heap[k]?
section
variable {S S2 : Nat → Prop} {w W W2 : World} {B : Nat}
theorem Mod.refl (S : Nat → Prop) (w : World) : Mod S w w := ⟨rfl, rfl, rfl, Nat.le_refl _, fun _ _ _ => rfl⟩
theorem Mod.of_below (h : Below w.heap.size w W) (S : Nat → Prop) : Mod S w W := ⟨h.os, h.tape, h.output, h.size, fun k hk _ => h.block k hk⟩
theorem Mod.mono (h : Mod S w W) (hs : ∀ k, S k → S2 k) : Mod S2 w W := ⟨h.os, h.tape, h.output, h.size, fun k hk hn => h.block k hk (fun hS => hn (hs k hS))⟩
theorem Mod.trans (h : Mod S w W) (k : Mod S2 W W2) (hs : ∀ k, S2 k → S k ∨ w.heap.size ≤ k) : Mod S w W2 :=
  ⟨k.os.trans h.os, k.tape.trans h.tape, k.output.trans h.output, Nat.le_trans h.size k.size, fun i hi hn =>
    (k.block i (Nat.lt_of_lt_of_le hi h.size) (fun h2 => (hs i h2).elim hn (fun h3 => by omega))).trans (h.block i hi hn)⟩
theorem Mod.of_grown {row : Option Nat} (hg : w.grownBy W row) : Mod (fun k => some k = row) w W :=
  ⟨hg.os, hg.tape, hg.output, hg.size, fun k hk hn => hg.block k hk hn⟩
theorem Mod.grown {row : Option Nat} (h : Mod S w W) (hg : W.grownBy W2 row) (hr : ∀ k, row = some k → S k ∨ w.heap.size ≤ k) : Mod S w W2 :=
  h.trans (Mod.of_grown hg) (fun k hk => hr k hk.symm)
theorem Mod.then_below (h : Mod S w W) (hb : Below W.heap.size W W2) : Mod S w W2 := h.trans (Mod.of_below hb (fun _ => False)) (fun _ hk => hk.elim)
theorem Mod.alloc (h : Mod S w W) (o : Obj) : Mod S w (W.alloc o) := h.then_below (below_alloc (Below.refl _ _) o)
theorem Mod.drew (h : Mod S w W) : Mod S w W.drew := ⟨h.os, h.tape, h.output, h.size, h.block⟩
theorem Mod.drewN (h : Mod S w W) (m : Nat) : Mod S w (W.drewN m) := ⟨h.os, h.tape, h.output, h.size, h.block⟩
theorem Mod.setCell (h : Mod S w W) {p : Addr} (hp : S p.block ∨ w.heap.size ≤ p.block) (u : Value) : Mod S w (W.setCell p u) :=
  h.trans (S2 := fun k => k = p.block) ⟨rfl, rfl, rfl, by simp [World.setCell], fun i _ hn => Below.heap_setCell W p u i hn⟩ (fun k hk => by rw [hk]; exact hp)
theorem Mod.below (h : Mod S w W) (hs : ∀ k, S k → B ≤ k) (_hB : B ≤ w.heap.size) : Below B w W :=
  ⟨h.os, h.tape, h.output, h.size, fun k hk => by
    by_cases hl : k < w.heap.size
    · exact h.block k hl (fun hS => by have := hs k hS; omega)
    · omega⟩
/-- Nothing that was there has been changed. -/
theorem Mod.below_all (h : Mod S w W) (hs : ∀ k, S k → w.heap.size ≤ k) : Below w.heap.size w W := h.below hs (Nat.le_refl _)
/-- Behind what had been begun below B. -/
theorem Mod.after {w0 : World} (hb : Below B w0 w) (hB : B ≤ w.heap.size) (h : Mod S w W) (hs : ∀ k, S k → B ≤ k) : Below B w0 W := hb.trans (h.below hs hB)
theorem Mod.tight (h : Mod (fun k => S k ∨ w.heap.size ≤ k) w W) : Mod S w W := ⟨h.os, h.tape, h.output, h.size, fun k hk hn => h.block k hk (fun hS => hS.elim hn (fun h2 => by omega))⟩
theorem Mod.blk (h : Mod S w W) {g : Nat} {o : Obj} (hb : w.heap[g]? = some o) (hg : ¬ S g) : W.heap[g]? = some o := (h.block g (blk_lt hb) hg).trans hb
theorem Mod.own (h : Mod S w W) {base : Nat} {e : TypeId} {size n : Nat} {v : Value} {xs : List Value} (ho : w.ownsRow base e size v n xs) (hv : ∀ k, v.ownBlock = some k → ¬ S k) : W.ownsRow base e size v n xs := by
  refine own_move ho (fun k hk => h.block k (own_lt ho k hk) (hv k hk))
end
section
variable {P : Program} {ops : Array Oper} {rest : List Oper} {o : Oper} {a : Act} {Q : Exit → Act → World → Prop}
/-- A block known whole is written anew from its head. -/
theorem ev_store_row {W : World} (op : Op) (ho' : o.op = op) (hgd : o.guard = none) (hN : o.dst = none) (ty : TypeId) (x y : Operand) (ho : op = .store ty x y)
    (g : Nat) (cells : Array Value) (hx : a.eval x = .pointer (some ⟨g, 0, none⟩)) (hy : a.eval y = .agg cells)
    (t : TypeId) (old : Array Value) (hg : W.heap[g]? = some (.cells old t (0, 0))) (hi : (P.info? ty).map (·.size) = some cells.size)
    (hold : old.size = cells.size) (h1 : cells.all (·.oneCell') = true)
    (h : ∀ w1, w1.heap[g]? = some (.cells cells t (0, 0)) → Mod (fun k => k = g) W w1 → wpList P ops Q rest a w1) : wpList P ops Q (o :: rest) a W := by
  refine wpList_store_row hgd ty x y (ho'.trans ho) g cells hx hy t old hg hi hold h1 ?_
  rw [hN]
  refine h _ ?_ ⟨rfl, rfl, rfl, by simp [World.setRow], fun k _ hk => ?_⟩
  · exact setRow_heap W g old cells t (0, 0) hg
  · exact setRow_other W g k cells hk
/-- A struct is read from the middle of a block. -/
theorem ev_load_mid {W : World} (op : Op) (ho' : o.op = op) (hgd : o.guard = none) (ty : TypeId) (x : Operand) (ho : op = .load ty x)
    (b off : Nat) (hx : a.eval x = .pointer (some ⟨b, off, none⟩)) (cs : List Value) (d : TypeDesc) (hc : W.rangeAt b off cs)
    (hu : P.underlying ty = some d) (hd : d.isRow = true) (hi : (P.info? ty).map (·.size) = some cs.length)
    (h : wpList P ops Q rest (a.put o.dst (.agg cs.toArray)) W) : wpList P ops Q (o :: rest) a W :=
  wpList_load_mid hgd ty x (ho'.trans ho) b off hx cs d hc hu hd hi h
/-- A struct is read from a block known whole. -/
theorem ev_load_row {W : World} (op : Op) (ho' : o.op = op) (hgd : o.guard = none) (ty : TypeId) (x : Operand) (ho : op = .load ty x)
    (g : Nat) (hx : a.eval x = .pointer (some ⟨g, 0, none⟩)) (t : TypeId) (cs : Array Value) (d : TypeDesc) (hg : W.heap[g]? = some (.cells cs t (0, 0)))
    (hu : P.underlying ty = some d) (hd : (match d with | .struct _ | .array _ _ => true | _ => false) = true) (hi : (P.info? ty).map (·.size) = some cs.size)
    (h : wpList P ops Q rest (a.put o.dst (.agg cs)) W) : wpList P ops Q (o :: rest) a W :=
  wpList_load_row hgd ty x (ho'.trans ho) g hx t cs (0, 0) d hg hu hd hi h
end
section
variable {P : Program} {ops : Array Oper} {rest : List Oper} {o : Oper} {a : Act} {Q : Exit → Act → World → Prop}
/-- append(v, x...) onto a row of the call's own. -/
theorem ev_append {W : World} (s x : Operand) (t e : TypeId) (ho' : o.op = .call { callee := .builtin .append, args := #[s, x], argTypes := #[t, t] }) (hgd : o.guard = none)
    (base : Nat) (z : Value) (size bytes : Nat) (ht : P.underlying t = some (.slice e)) (hinfo : (P.info? e).map (fun i => (i.zero, i.size, i.bytes)) = some (some z, size, bytes)) (hz : z.cells.size = size) (hs0 : 0 < size)
    (v : Value) (n : Nat) (xs : List Value) (hs : a.eval s = v) (hown : W.ownsRow base e size v n xs)
    (ad : Addr) (m c : Nat) (news : List Value) (hx : a.eval x = .slice (some ad) m c) (hl : news.length = m * size) (hnews : ∀ j u, news[j]? = some u → W.cell? (ad.add j) = some u) (h1 : ∀ u ∈ news, u.oneCell' = true)
    (h63 : n + m ≤ maxLen) (hbytes : (n + m) * bytes ≤ 140737488355328) (hbase : base ≤ W.heap.size)
    (h : ∀ v' w', w'.ownsRow base e size v' (n + m) (xs ++ news) → Mod (fun k => some k = v.ownBlock) W w' → (v' = .slice none 0 0 ↔ v = .slice none 0 0 ∧ m = 0) → (v'.ownBlock = v.ownBlock ∨ v'.ownBlock = some W.heap.size) → wpList P ops Q rest (a.put o.dst v') w') :
    wpList P ops Q (o :: rest) a W := by
  obtain ⟨i0, hi, hzz⟩ := Option.map_eq_some_iff.1 hinfo
  simp only [Prod.mk.injEq] at hzz
  obtain ⟨hz0, hz1, hz2⟩ := hzz
  exact wpList_append_own_at W hgd s x t ho' base e i0 z size bytes ht hi hz0 hz1 hz2 hz hs0 v n xs hs hown ad m c news hx hl hnews h1 h63 hbytes hbase (fun v' w' a1 a2 a3 a4 => h v' w' a1 (Mod.of_grown a2) a3 a4)
end
section
variable {P : Program} {ops : Array Oper} {o : Oper} {a : Act} {Q : Exit → Act → World → Prop} {K : Act → World → Prop}
/-- .. as one step of a region that draws its order (for 'go_region_law'). -/
theorem st_append {W : World} {D : Prop} (s x : Operand) (t e : TypeId) (ho' : o.op = .call { callee := .builtin .append, args := #[s, x], argTypes := #[t, t] }) (hw : Region.wanted o (yielded ops a.tmps) = true)
    (base : Nat) (z : Value) (size bytes : Nat) (ht : P.underlying t = some (.slice e)) (hinfo : (P.info? e).map (fun i => (i.zero, i.size, i.bytes)) = some (some z, size, bytes)) (hz : z.cells.size = size) (hs0 : 0 < size)
    (v : Value) (n : Nat) (xs : List Value) (hs : a.eval s = v) (hown : W.ownsRow base e size v n xs)
    (ad : Addr) (m c : Nat) (news : List Value) (hx : a.eval x = .slice (some ad) m c) (hl : news.length = m * size) (hnews : ∀ j u, news[j]? = some u → W.cell? (ad.add j) = some u) (h1 : ∀ u ∈ news, u.oneCell' = true)
    (h63 : n + m ≤ maxLen) (hbytes : (n + m) * bytes ≤ 140737488355328) (hbase : base ≤ W.heap.size)
    (h : ∀ v' w', w'.ownsRow base e size v' (n + m) (xs ++ news) → Mod (fun k => some k = v.ownBlock) W w' → (v' = .slice none 0 0 ↔ v = .slice none 0 0 ∧ m = 0) → (v'.ownBlock = v.ownBlock ∨ v'.ownBlock = some W.heap.size) → K (a.put o.dst v') w') :
    if Region.wanted o (yielded ops a.tmps) = true then Oper.wp P o a W K Q else D := by
  obtain ⟨i0, hi, hzz⟩ := Option.map_eq_some_iff.1 hinfo
  simp only [Prod.mk.injEq] at hzz
  obtain ⟨hz0, hz1, hz2⟩ := hzz
  rw [if_pos hw]
  obtain ⟨v', w', hr, h2, h3, h4, h5⟩ := run_append_own_at (P := P) W base t o.type e i0 z size bytes ht hi hz0 hz1 hz2 hz hs0 v n xs hown ad m c news hl hnews h1 h63 hbytes hbase
  unfold Oper.wp execOp
  simp only [ho', resolve, invoke, builtin, Sem.run_bind, Sem.run_pure, Result.andThen_ok, List.map_toArray, List.map_cons, List.map_nil, hs, hx, hr]
  exact h v' w' h2 (Mod.of_grown h3) h4 h5
end
section
variable {P : Program} {ops : Array Oper} {rest : List Oper} {o : Oper} {a : Act} {Q : Exit → Act → World → Prop}
end
section
variable {P : Program} {ops : Array Oper} {rest : List Oper} {o : Oper} {a : Act} {Q : Exit → Act → World → Prop}
end
theorem own_empty {W : World} {base g : Nat} {e : TypeId} {size : Nat} (hb : base ≤ g) (h : W.heap[g]? = some (.cells #[] e (0, 0))) : W.ownsRow base e size (.slice (some ⟨g, 0, none⟩) 0 0) 0 [] :=
  ⟨by simp, .inr ⟨g, 0, #[], rfl, hb, h, Nat.le_refl _, Nat.zero_le _, by simp, by simp⟩⟩
/-- What a row of the call's own holds, as the cells that are appended. -/
theorem news_of_own {W : World} {base g n c : Nat} {e : TypeId} {size : Nat} {xs : List Value} (h : W.ownsRow base e size (.slice (some ⟨g, 0, none⟩) n c) n xs) : ∀ j u, xs[j]? = some u → W.cell? ((⟨g, 0, none⟩ : Addr).add j) = some u := by
  intro j u hu
  rw [add_plain, h.cellAt j (by have := (List.getElem?_eq_some_iff.1 hu).1; have := h.1; omega)]
  exact hu
theorem range_of_own {w : World} {B g n cap : Nat} {e : TypeId} {size : Nat} {xs : List Value} (h : w.ownsRow B e size (.slice (some ⟨g, 0, none⟩) n cap) n xs) (off : Nat) (c : List Value) (hc : ∀ j u, c[j]? = some u → xs[off + j]? = some u) (hl : off + c.length ≤ n * size) : w.rangeAt g off c := by
  intro j v hv
  have hj := (List.getElem?_eq_some_iff.1 hv).1
  rw [h.cellAt _ (by omega)]
  exact hc j v hv
/-- Elements of one size, one behind the other. -/
theorem flat_at {α : Type} (cl : α → List Value) (s : Nat) (hs : ∀ x, (cl x).length = s) (xs : List α) (i : Nat) (x : α) (hx : xs[i]? = some x) (j : Nat) (u : Value) (hu : (cl x)[j]? = some u) : (xs.flatMap cl)[i * s + j]? = some u := by
  induction xs generalizing i with
  | nil => simp at hx
  | cons y ys ih =>
    rw [List.flatMap_cons]
    cases i with
    | zero =>
      simp only [List.getElem?_cons_zero, Option.some.injEq] at hx
      subst hx
      rw [Nat.zero_mul, Nat.zero_add, List.getElem?_append_left (List.getElem?_eq_some_iff.1 hu).1]
      exact hu
    | succ i =>
      rw [List.getElem?_cons_succ] at hx
      rw [List.getElem?_append_right (by rw [hs, Nat.succ_mul]; omega), hs, Nat.succ_mul, show i * s + s + j - s = i * s + j by omega]
      exact ih i hx
theorem flat_length {α : Type} (cl : α → List Value) (s : Nat) (hs : ∀ x, (cl x).length = s) (xs : List α) : (xs.flatMap cl).length = xs.length * s := by
  induction xs with
  | nil => simp
  | cons x xs ih => rw [List.flatMap_cons, List.length_append, ih, hs, List.length_cons, Nat.succ_mul]; omega
end Go.Proofs.YtepklobkppdliaaDoor.Lib
end
section
namespace Go.Proofs.YtepklobkppdliaaDoor.Lib
open Go.RowKit Go.Proofs.YtepklobkppdliaaDoorW.PrintWords Go.Proofs.YtepklobkppdliaaDoorW.PrintLast
section
variable {P : Program} {ops : Array Oper} {rest : List Oper} {o : Oper} {a : Act} {Q : Exit → Act → World → Prop}
end
end Go.Proofs.YtepklobkppdliaaDoor.Lib
end
section
namespace Go.Proofs.YtepklobkppdliaaDoor.Open
open Go.RowKit Go.Proofs.YtepklobkppdliaaDoorW.PrintWords Go.Proofs.YtepklobkppdliaaDoor.Lib

/-- A cell's kind. -/
inductive Leaf where
  | int (k : IntKind)
  | bool
  | str
/-- Cells of such kinds. -/
def Fits : List Leaf → List Value → Prop
  | [], cs => cs = []
  | .int k :: l, cs => ∃ x r, cs = .int k x :: r ∧ (Lit.int k x).wf = true ∧ Fits l r
  | .bool :: l, cs => ∃ x r, cs = .bool x :: r ∧ Fits l r
  | .str :: l, cs => ∃ x r, cs = .string x :: r ∧ x.size ≤ maxLen ∧ Fits l r
theorem Fits.length {l : List Leaf} {cs : List Value} (h : Fits l cs) : cs.length = l.length := by
  induction l generalizing cs with
  | nil => rw [show cs = [] from h]; rfl
  | cons a l ih =>
    cases a with
    | int k => obtain ⟨x, r, rfl, _, h⟩ := h; simp [ih h]
    | bool => obtain ⟨x, r, rfl, h⟩ := h; simp [ih h]
    | str => obtain ⟨x, r, rfl, _, h⟩ := h; simp [ih h]
theorem Fits.append {l l' : List Leaf} {cs cs' : List Value} (h : Fits l cs) (h' : Fits l' cs') : Fits (l ++ l') (cs ++ cs') := by
  induction l generalizing cs with
  | nil => rw [show cs = [] from h]; exact h'
  | cons a l ih =>
    cases a with
    | int k => obtain ⟨x, r, rfl, hw, h⟩ := h; exact ⟨x, r ++ cs', rfl, hw, ih h⟩
    | bool => obtain ⟨x, r, rfl, h⟩ := h; exact ⟨x, r ++ cs', rfl, ih h⟩
    | str => obtain ⟨x, r, rfl, hw, h⟩ := h; exact ⟨x, r ++ cs', rfl, hw, ih h⟩
theorem Fits.one {l : List Leaf} {cs : List Value} (h : Fits l cs) : ∀ u ∈ cs, u.oneCell' = true := by
  induction l generalizing cs with
  | nil => rw [show cs = [] from h]; intro u hu; cases hu
  | cons a l ih =>
    cases a with
    | int k => obtain ⟨x, r, rfl, _, h⟩ := h; intro u hu; rcases List.mem_cons.1 hu with rfl | hu; · rfl
               · exact ih h u hu
    | bool => obtain ⟨x, r, rfl, h⟩ := h; intro u hu; rcases List.mem_cons.1 hu with rfl | hu; · rfl
              · exact ih h u hu
    | str => obtain ⟨x, r, rfl, _, h⟩ := h; intro u hu; rcases List.mem_cons.1 hu with rfl | hu; · rfl
             · exact ih h u hu
section
variable {H : Type} {enc : TypeId × Value → H} {P : Program} {w : World} {base : Nat} {spare : Nat → Bool} {held : Bool}
end
/-- A slice that came in: its cells, element by element. -/
def Arg {α : Type} (cl : α → List Value) (w : World) (A : Option Addr) (n : Nat) (xs : List α) : Prop :=
  xs.length = n ∧ n ≤ 9223372036854775807 ∧ (0 < n → ∃ b o, A = some ⟨b, o, none⟩ ∧ w.rangeAt b o (xs.flatMap cl))
section
variable {α : Type} {cl : α → List Value} {w W : World} {A : Option Addr} {n : Nat} {xs : List α}
theorem Arg.below (h : Arg cl w A n xs) (hb : Below w.heap.size w W) : Arg cl W A n xs :=
  ⟨h.1, h.2.1, fun hn => by
    obtain ⟨b, o, e, hr⟩ := h.2.2 hn
    exact ⟨b, o, e, fun j v hv => pw_cell_below hb (hr j v hv)⟩⟩
/-- Element i. -/
theorem Arg.at_ {s : Nat} (hs : ∀ x, (cl x).length = s) (h : Arg cl w A n xs) (i : Nat) (x : α) (hx : xs[i]? = some x) : ∃ b o, A = some ⟨b, o, none⟩ ∧ w.rangeAt b (o + i * s) (cl x) := by
  have hi := (List.getElem?_eq_some_iff.1 hx).1
  obtain ⟨b, o, e, hr⟩ := h.2.2 (by have := h.1; omega)
  refine ⟨b, o, e, fun j v hv => ?_⟩
  have := hr (i * s + j) v (flat_at cl s hs xs i x hx j v hv)
  rwa [← Nat.add_assoc] at this
end
section
variable {H : Type} {enc : TypeId × Value → H} {P : Program} {w : World} {spare : Nat → Bool} {held : Bool}
theorem no_spot {w : World} {a : Addr} {v : Value} (h : w.cell? a = some v) : a.spot = none := by
  unfold World.cell? at h
  cases hs : a.spot with
  | none => rfl
  | some q =>
    rw [hs] at h
    split at h <;> simp at h
end
end Go.Proofs.YtepklobkppdliaaDoor.Open
end
section
namespace Go.Proofs.YtepklobkppdliaaDoor.Ev
open Go
section
variable {P : Program} {ops : Array Oper} {md : Region.Mode} {C : Array Bool → World → Prop}
/-- What the operation waits for is done. -/
def Deps (md : Region.Mode) (o : Oper) (S : Array Bool) : Prop := ∀ e ∈ o.after, Region.binds md e = true → S.getD e.on false = true
def Upon (P : Program) (D : World → Prop) (v : Value) : Result Next → Prop
  | .ok (.value u) w' => u = v ∧ D w'
  | .ok .skip w' => v = undef ∧ D w'
  | .ok (.enter f args) w' => Calls P f args w' (fun e w'' => e = .returned v ∧ D w'')
  | _ => False
/-- The operation of number i yields v in every world in which it may come up. -/
def Does (P : Program) (md : Region.Mode) (C : Array Bool → World → Prop) (i : Nat) (o : Oper) (a : Act) (v : Value) : Prop :=
  ∀ S w, S.getD i true = false → Deps md o S → C S w → Upon P (C (S.setIfInBounds i true)) v ((execOp a.eval o).run P w)
/-- It is passed over. -/
def Idle (C : Array Bool → World → Prop) (i : Nat) : Prop := ∀ S w, S.getD i true = false → C S w → C (S.setIfInBounds i true) w
def evOp (P : Program) (md : Region.Mode) (ops : Array Oper) (C : Array Bool → World → Prop) (i : Nat) (K : Act → Prop) (a : Act) : Prop :=
  match ops[i]? with
  | none => False
  | some o => if Region.wanted o (yielded ops a.tmps) = true then ∃ v, Does P md C i o a v ∧ K (a.put o.dst v) else Idle C i ∧ K (a.put o.dst undef)
theorem evOp_mono {i : Nat} {a : Act} {K K' : Act → Prop} (h : ∀ a, K a → K' a) (hh : evOp P md ops C i K a) : evOp P md ops C i K' a := by
  unfold evOp at *
  split
  · simp only [*] at hh
  · rename_i o ho
    simp only [ho] at hh
    split
    · rename_i hw
      simp only [hw, if_true] at hh
      obtain ⟨v, h1, h2⟩ := hh
      exact ⟨v, h1, h _ h2⟩
    · rename_i hw
      simp only [hw] at hh
      exact ⟨hh.1, h _ hh.2⟩
/-- Whatever order is picked from here on. -/
def wpAnyE (P : Program) (md : Region.Mode) (ops : Array Oper) (C : Array Bool → World → Prop) (Q : Act → Prop) : Nat → Array Bool → Act → Prop
  | 0, listed, a => Region.ready md ops listed = [] ∧ Q a
  | fuel + 1, listed, a => Region.ready md ops listed ≠ [] ∧ ∀ i ∈ Region.ready md ops listed, evOp P md ops C i (wpAnyE P md ops C Q fuel (listed.setIfInBounds i true)) a
theorem wp_of_does {i : Nat} {o : Oper} {a : Act} {v : Value} {K : Act → World → Prop} {Q' : Exit → Act → World → Prop} {S : Array Bool} {w : World} (h0 : S.getD i true = false) (hd : Deps md o S) (hC : C S w)
    (h : ∀ w', C (S.setIfInBounds i true) w' → K (a.put o.dst v) w') (hh : Does P md C i o a v) : o.wp P a w K Q' := by
  have h3 := hh S w h0 hd hC
  unfold Oper.wp
  generalize (execOp a.eval o).run P w = r at *
  cases r with
  | ok n w' =>
    cases n <;> simp only [Upon] at h3 <;> simp only [Oper.upon]
    case value u =>
      obtain ⟨e1, e2⟩ := h3
      rw [e1]
      exact h _ e2
    case skip =>
      obtain ⟨e1, e2⟩ := h3
      rw [← e1]
      exact h _ e2
    case enter f args => exact h3.mono fun e w'' ⟨he, hw''⟩ => by subst he; exact h _ hw''
  | halt x w' => simp only [Upon] at h3
/-- How many are not yet done. -/
def open_ (S : Array Bool) : Nat := S.toList.count false
theorem open_set {S : Array Bool} {i : Nat} (h : S.getD i true = false) : open_ (S.setIfInBounds i true) + 1 = open_ S := by
  have hi : i < S.size := by
    rcases Nat.lt_or_ge i S.size with h' | h'
    · exact h'
    · rw [Array.getD_eq_getD_getElem?, Array.getElem?_eq_none h'] at h
      cases h
  have hg : S[i] = false := by
    rw [Array.getD_eq_getD_getElem?, Array.getElem?_eq_getElem hi] at h
    exact h
  unfold open_
  rw [Array.toList_setIfInBounds, List.count_set (by simpa using hi)]
  have : S.toList[i]'(by simpa using hi) = false := by simpa using hg
  rw [this]
  have hp : 0 < S.toList.count false := List.count_pos_iff.2 (by rw [← this]; exact List.getElem_mem _)
  rw [if_pos (show (false == false) = true from rfl), if_neg (show ¬ (true == false) = true by decide)]
  omega
theorem all_done {S : Array Bool} (h : open_ S = 0) : S = Array.replicate S.size true := by
  apply Array.ext
  · simp
  · intro i h1 h2
    rw [Array.getElem_replicate]
    cases hS : S[i]
    · exfalso
      have : false ∈ S.toList := by rw [← hS]; exact Array.getElem_mem_toList h1
      have := List.count_pos_iff.2 this
      unfold open_ at h
      omega
    · rfl
theorem wpAny_of_ev {Q : Act → Prop} {Q' : Exit → Act → World → Prop} {n : Nat} (hQ : ∀ a w, C (Array.replicate n true) w → Q a → Q' .normal a w) : ∀ (fuel : Nat) (listed : Array Bool) (a : Act) (w : World),
    listed.size = n → open_ listed = fuel → C listed w → wpAnyE P md ops C Q fuel listed a → wpAny P md ops Q' fuel listed a w
  | 0, listed, a, w, hs, ho, hw, h => ⟨h.1, hQ a w (by rw [← hs, ← all_done ho]; exact hw) h.2⟩
  | fuel + 1, listed, a, w, hs, ho, hw, h => ⟨fun h0 => absurd h0 h.1, fun i hi => by
    have h1 := h.2 i hi
    obtain ⟨hun, o, hoj, hall⟩ := mem_ready.1 hi
    have hs' : (listed.setIfInBounds i true).size = n := by simpa using hs
    have ho' : open_ (listed.setIfInBounds i true) = fuel := by have := open_set hun; omega
    unfold evOp at h1
    unfold wpOp
    simp only [hoj] at h1 ⊢
    split
    · rename_i hwt
      simp only [hwt, if_true] at h1
      obtain ⟨v, h2, h3⟩ := h1
      exact .inl (wp_of_does hun hall hw (fun w' hw' => wpAny_of_ev hQ fuel _ _ w' hs' ho' hw' h3) h2)
    · rename_i hwt
      simp only [hwt] at h1
      exact wpAny_of_ev hQ fuel _ _ w hs' ho' (h1.1 _ _ hun hw) h1.2⟩
def YieldsE (P : Program) (md : Region.Mode) (ops : Array Oper) (C : Array Bool → World → Prop) (i : Nat) (o : Oper) (v : Value) (a : Act) : Prop :=
  (Region.wanted o (yielded ops a.tmps) = true ∧ Does P md C i o a v) ∨ (Region.wanted o (yielded ops a.tmps) = false ∧ v = undef ∧ Idle C i)
theorem YieldsE.evOp {i : Nat} {o : Oper} {v : Value} {a : Act} (hi : ops[i]? = some o) (hy : YieldsE P md ops C i o v a) {K : Act → Prop} (h : K (a.put o.dst v)) : evOp P md ops C i K a := by
  unfold Ev.evOp
  simp only [hi]
  rcases hy with ⟨hw, hv⟩ | ⟨hw, rfl, hid⟩
  · simp only [hw, if_true]; exact ⟨v, hv, h⟩
  · simp only [hw, Bool.false_eq_true, if_false]; exact ⟨hid, h⟩
theorem YieldsE.of_same {i : Nat} {o : Oper} {v : Value} {a a' : Act} (hy : YieldsE P md ops C i o v a) (he : execOp a'.eval o = execOp a.eval o)
    (hw : Region.wanted o (yielded ops a'.tmps) = Region.wanted o (yielded ops a.tmps)) : YieldsE P md ops C i o v a' := by
  unfold YieldsE Does at *
  rw [he, hw]
  exact hy
theorem yieldsE_of_evOp {i : Nat} {o : Oper} {a : Act} {K : Act → Prop} (hi : ops[i]? = some o) (h : evOp P md ops C i K a) : ∃ v, YieldsE P md ops C i o v a ∧ K (a.put o.dst v) := by
  unfold Ev.evOp at h
  simp only [hi] at h
  by_cases hw : Region.wanted o (yielded ops a.tmps) = true
  · simp only [hw, if_true] at h
    obtain ⟨v, h1, h2⟩ := h
    exact ⟨v, .inl ⟨hw, h1⟩, h2⟩
  · simp only [hw] at h
    exact ⟨undef, .inr ⟨by simpa using hw, rfl, h.1⟩, h.2⟩
theorem evOp_put {i j : Nat} {oi oj : Oper} {v : Value} (hj : ops[j]? = some oj) (hap : oi.apart ops oj = true)
    (hsi : ∀ cs b, oi.op ≠ .select cs b) (hsj : ∀ cs b, oj.op ≠ .select cs b) {K : Act → Prop} {a : Act}
    (hy : YieldsE P md ops C i oi v a) (h : evOp P md ops C j K (a.put oi.dst v)) :
    evOp P md ops C j (fun a' => YieldsE P md ops C i oi v a' ∧ K (a'.put oi.dst v)) a := by
  obtain ⟨h1, h2, h3⟩ := Oper.apart_spec hap
  have keep : ∀ (a : Act), YieldsE P md ops C i oi v a → ∀ u, YieldsE P md ops C i oi v (a.put oj.dst u) := fun a hy u =>
    hy.of_same (execOp_put oi hsi a oj.dst u h3) (wanted_put oi a oj.dst u h3)
  unfold evOp at *
  simp only [hj] at *
  rw [wanted_put oj a oi.dst v h1] at h
  split
  · rename_i hw
    simp only [hw, if_true] at h
    obtain ⟨u, hu, hn⟩ := h
    refine ⟨u, ?_, keep a hy u, by rw [← Act.put_comm a v u h2]; exact hn⟩
    unfold Does at *
    rwa [execOp_put oj hsj a oi.dst v h1] at hu
  · rename_i hw
    simp only [hw] at h
    exact ⟨h.1, keep a hy _, by rw [← Act.put_comm a v undef h2]; exact h.2⟩
theorem wpAnyE_first {Q : Act → Prop} {i : Nat} {oi : Oper} {v : Value} (hi : ops[i]? = some oi) (hsel : ∀ (j : Nat) (o : Oper) cs b, ops[j]? = some o → o.op ≠ .select cs b) :
    ∀ (fuel : Nat) (listed : Array Bool) (a : Act),
      (∀ j oj, ops[j]? = some oj → j ≠ i → listed.getD j true = false → (∀ e ∈ oj.after, Region.binds md e = true → e.on ≠ i) → oi.apart ops oj = true) →
      i ∈ Region.ready md ops listed → YieldsE P md ops C i oi v a →
      wpAnyE P md ops C Q fuel (listed.setIfInBounds i true) (a.put oi.dst v) → wpAnyE P md ops C Q (fuel + 1) listed a := by
  intro fuel
  induction fuel with
  | zero =>
    intro listed a _ hr hy H
    refine ⟨fun h => (by rw [h] at hr; cases hr), fun j hj => ?_⟩
    by_cases hji : j = i
    · subst hji; exact hy.evOp hi H
    · have := ready_mono hj hji
      rw [H.1] at this
      cases this
  | succ fuel ih =>
    intro listed a hfree hr hy H
    refine ⟨fun h => (by rw [h] at hr; cases hr), fun j hj => ?_⟩
    by_cases hji : j = i
    · subst hji; exact hy.evOp hi H
    · have h1 := H.2 j (ready_mono hj hji)
      obtain ⟨hjun, oj, hoj, hall⟩ := mem_ready.1 hj
      have hnot : ∀ e ∈ oj.after, Region.binds md e = true → e.on ≠ i := fun e he hb heq => by
        have h1 := hall e he hb
        have h0 := (mem_ready.1 hr).1
        rw [heq] at h1
        rcases Nat.lt_or_ge i listed.size with h' | h'
        · simp [h'] at h0 h1; rw [h0] at h1; cases h1
        · simp [Array.getElem?_eq_none h'] at h1
      have h2 := evOp_put hoj (hfree j oj hoj hji hjun hnot) (fun cs b => hsel i oi cs b hi) (fun cs b => hsel j oj cs b hoj) hy h1
      have hfree' : ∀ k ok, ops[k]? = some ok → k ≠ i → (listed.setIfInBounds j true).getD k true = false →
          (∀ e ∈ ok.after, Region.binds md e = true → e.on ≠ i) → oi.apart ops ok = true := fun k ok hk hki hun hno => by
        refine hfree k ok hk hki ?_ hno
        by_cases hjk : j = k
        · subst hjk; exact hjun
        · rw [getD_set_ne true hjk] at hun; exact hun
      refine evOp_mono (fun a' h3 => ih (listed.setIfInBounds j true) a' hfree' (ready_mono hr (Ne.symm hji)) h3.1 ?_) h2
      rw [Array.setIfInBounds_comm _ _ hji]
      exact h3.2
/-- The walk in the order of the text. -/
def wpEv (P : Program) (md : Region.Mode) (ops : Array Oper) (C : Array Bool → World → Prop) (Q : Act → Prop) : Nat → List Oper → Act → Prop
  | _, [], a => Q a
  | k, o :: rest, a => if Region.wanted o (yielded ops a.tmps) = true then ∃ v, Does P md C k o a v ∧ wpEv P md ops C Q (k + 1) rest (a.put o.dst v) else Idle C k ∧ wpEv P md ops C Q (k + 1) rest (a.put o.dst undef)
theorem wpAnyE_lex {Q : Act → Prop} (hs : Region.noSelect ops = true) : ∀ (l : List Oper) (k : Nat) (listed : Array Bool) (a : Act), (∀ j, l[j]? = ops[k + j]?) →
    Region.lexFrom md ops l.length k listed = true → wpEv P md ops C Q k l a → wpAnyE P md ops C Q l.length listed a
  | [], _, _, _, _, hB, h => ⟨by simpa [Region.lexFrom] using hB, h⟩
  | o :: l, k, listed, a, hl, hB, h => by
    have h0 : ops[k]? = some o := by simpa using (hl 0).symm
    simp only [List.length_cons, Region.lexFrom, Bool.and_eq_true] at hB
    obtain ⟨⟨hr, hf⟩, hB'⟩ := hB
    have hst : evOp P md ops C k (wpEv P md ops C Q (k + 1) l) a := by unfold evOp; simp only [h0]; exact h
    obtain ⟨v, hy, hK⟩ := yieldsE_of_evOp h0 hst
    exact wpAnyE_first h0 (Region.noSelect_spec hs) l.length listed a (Region.free_spec h0 hf) (by simpa using hr) hy
      (wpAnyE_lex hs l (k + 1) _ _ (fun j => by have := hl (j + 1); simpa [Nat.add_assoc, Nat.add_comm 1 j] using this) hB' hK)
/-- A region that draws its order. -/
theorem region_ev {id : Nat} {Q' : Exit → Act → World → Prop} {a : Act} {w : World} (C : Array Bool → World → Prop) (hm : P.follows .mixedOrders = true) (hB : Region.lexB .any ops = true) (hC : C (Array.replicate ops.size false) w.drew)
    (h : wpEv P .any ops C (fun a' => ∀ w', C (Array.replicate ops.size true) w' → Q' .normal a' w') 0 ops.toList a) : (Code.region id ops true).wp P Q' a w := by
  simp only [Region.lexB, Bool.and_eq_true] at hB
  refine wp_region_any hm (wpAny_of_ev (n := ops.size) (Q := fun a' => ∀ w', C (Array.replicate ops.size true) w' → Q' .normal a' w') (fun _ w' hw' h => h w' hw') _ _ _ _ (by simp) ?_ hC ?_)
  · unfold open_
    simp
  · have := wpAnyE_lex (C := C) (md := .any) hB.1 ops.toList 0 (Array.replicate ops.size false) a (by simp) (by simpa using hB.2) h
    simpa using this
end
end Go.Proofs.YtepklobkppdliaaDoor.Ev
end
section
namespace Go.Proofs.YtepklobkppdliaaDoor.Ev
open Go.RowKit Go.Proofs.YtepklobkppdliaaDoorW.PrintWords Go.Proofs.YtepklobkppdliaaDoorW.PrintLast Go.Proofs.YtepklobkppdliaaDoor.Lib
section
variable {P : Program} {ops : Array Oper} {md : Region.Mode} {C : Array Bool → World → Prop} {Q : Act → Prop} {o : Oper} {a : Act} {rest : List Oper} {k : Nat}
theorem ev_step {v : Value} {t : Option Tmp} (hg : o.guard = none) (ht : o.dst = t) (hd : Does P md C k o a v) (h : wpEv P md ops C Q (k + 1) rest (a.put t v)) : wpEv P md ops C Q k (o :: rest) a := by
  subst ht
  unfold wpEv
  rw [if_pos (by unfold Region.wanted; rw [hg])]
  exact ⟨v, hd, h⟩
theorem ev_nil (h : Q a) : wpEv P md ops C Q k [] a := h
theorem set_other {S : Array Bool} {i j : Nat} (h : i ≠ j) : (S.setIfInBounds i true).getD j false = S.getD j false := getD_set_ne false h
/-- An operation that only computes. -/
theorem does_pure {i : Nat} {v : Value} (hi : Idle C i) (h : ∀ w, (execOp a.eval o).run P w = .ok (.value v) w) : Does P md C i o a v := fun S w h0 _ hC => by
  rw [h w]
  exact ⟨rfl, hi S w h0 hC⟩
theorem run_store_whole {w : World} (ty : TypeId) (x y : Operand) (ho : o.op = .store ty x y) (g : Nat) (cells : Array Value) (hx : a.eval x = .pointer (some ⟨g, 0, none⟩)) (hy : a.eval y = .agg cells)
    (t : TypeId) (old : Array Value) (hg : w.heap[g]? = some (.cells old t (0, 0))) (hi : (P.info? ty).map (·.size) = some cells.size) (hold : old.size = cells.size) (h1 : cells.all (·.oneCell') = true) :
    (execOp a.eval o).run P w = .ok .skip (w.setRow g cells) := by
  unfold execOp
  simp only [ho, hx, hy, Instr.storeAt, Instr.sureAddr, Sem.run_bind, Sem.run_pure, Result.andThen_ok, run_storeVar_row w g t ty old cells hg hi hold h1]
theorem run_load_whole {w : World} (ty : TypeId) (x : Operand) (ho : o.op = .load ty x) (g : Nat) (hx : a.eval x = .pointer (some ⟨g, 0, none⟩)) (t : TypeId) (cs : Array Value) (d : TypeDesc) (hg : w.heap[g]? = some (.cells cs t (0, 0)))
    (hu : P.underlying ty = some d) (hd : (match d with | .struct _ | .array _ _ => true | _ => false) = true) (hi : (P.info? ty).map (·.size) = some cs.size) :
    (execOp a.eval o).run P w = .ok (.value (.agg cs)) w := by
  unfold execOp
  simp only [ho, hx, Instr.loadAt, Instr.sureAddr, Sem.run_bind, Sem.run_pure, Result.andThen_ok, run_loadVar_row w g t ty cs (0, 0) d hg hu hd hi]
theorem row_mod {W : World} (g : Nat) (old cells : Array Value) (t : TypeId) (hg : W.heap[g]? = some (.cells old t (0, 0))) : (W.setRow g cells).heap[g]? = some (.cells cells t (0, 0)) ∧ Mod (fun k => k = g) W (W.setRow g cells) :=
  ⟨setRow_heap W g old cells t (0, 0) hg, ⟨rfl, rfl, rfl, by simp [World.setRow], fun k _ hk => setRow_other W g k cells hk⟩⟩
/-- Two blocks are written whole, each by one operation; all else that was there stays. -/
structure Two (W : World) (g1 g2 : Nat) (t1 t2 : TypeId) (c1 A c2 X : Array Value) (i1 i2 : Nat) (S : Array Bool) (w : World) : Prop where
  mod : Mod (fun k => k = g1 ∨ k = g2) W w
  b1 : ∃ cs, w.heap[g1]? = some (.cells cs t1 (0, 0)) ∧ (cs = c1 ∨ cs = A) ∧ (S.getD i1 false = true → cs = A)
  b2 : ∃ cs, w.heap[g2]? = some (.cells cs t2 (0, 0)) ∧ (cs = c2 ∨ cs = X) ∧ (S.getD i2 false = true → cs = X)
variable {W : World} {g1 g2 : Nat} {t1 t2 : TypeId} {c1 A c2 X : Array Value} {i1 i2 : Nat}
theorem two_start {n : Nat} (h1 : W.heap[g1]? = some (.cells c1 t1 (0, 0))) (h2 : W.heap[g2]? = some (.cells c2 t2 (0, 0))) : Two W g1 g2 t1 t2 c1 A c2 X i1 i2 (Array.replicate n false) W.drew := by
  have hn : ∀ i : Nat, ¬ (Array.replicate n false).getD i false = true := fun i h => by
    rw [Array.getD_eq_getD_getElem?, Array.getElem?_replicate] at h
    split at h <;> cases h
  exact ⟨(Mod.refl _ _).drew, ⟨c1, h1, .inl rfl, fun h => absurd h (hn i1)⟩, ⟨c2, h2, .inl rfl, fun h => absurd h (hn i2)⟩⟩
theorem two_end {n : Nat} {w : World} (h : Two W g1 g2 t1 t2 c1 A c2 X i1 i2 (Array.replicate n true) w) (h1 : i1 < n) (h2 : i2 < n) :
    Mod (fun k => k = g1 ∨ k = g2) W w ∧ w.heap[g1]? = some (.cells A t1 (0, 0)) ∧ w.heap[g2]? = some (.cells X t2 (0, 0)) := by
  have hn : ∀ i : Nat, i < n → (Array.replicate n true).getD i false = true := fun i hi => by
    rw [Array.getD_eq_getD_getElem?, Array.getElem?_replicate, if_pos hi]
    rfl
  obtain ⟨x, hx, _, hx2⟩ := h.b1
  obtain ⟨y, hy, _, hy2⟩ := h.b2
  obtain rfl := hx2 (hn _ h1)
  obtain rfl := hy2 (hn _ h2)
  exact ⟨h.mod, hx, hy⟩
theorem two_idle {i : Nat} (h1 : i ≠ i1) (h2 : i ≠ i2) : Idle (Two W g1 g2 t1 t2 c1 A c2 X i1 i2) i := fun S w _ h =>
  ⟨h.mod, by rw [set_other h1]; exact h.b1, by rw [set_other h2]; exact h.b2⟩
theorem two_pure {i : Nat} {v : Value} (h1 : i ≠ i1) (h2 : i ≠ i2) (h : ∀ w, (execOp a.eval o).run P w = .ok (.value v) w) : Does P md (Two W g1 g2 t1 t2 c1 A c2 X i1 i2) i o a v := does_pure (two_idle h1 h2) h
/-- A block is read that is none of the two. -/
theorem two_load {i : Nat} (h1 : i ≠ i1) (h2 : i ≠ i2) (ty : TypeId) (x : Operand) (ho : o.op = .load ty x) (g : Nat) (hx : a.eval x = .pointer (some ⟨g, 0, none⟩)) (t : TypeId) (cs : Array Value) (d : TypeDesc) (hg : W.heap[g]? = some (.cells cs t (0, 0)))
    (hn1 : g ≠ g1) (hn2 : g ≠ g2) (hu : P.underlying ty = some d) (hd : (match d with | .struct _ | .array _ _ => true | _ => false) = true) (hi : (P.info? ty).map (·.size) = some cs.size) : Does P md (Two W g1 g2 t1 t2 c1 A c2 X i1 i2) i o a (.agg cs) := fun S w h0 _ hC => by
  rw [run_load_whole ty x ho g hx t cs d (hC.mod.blk hg (fun e => e.elim hn1 hn2)) hu hd hi]
  exact ⟨rfl, two_idle h1 h2 S w h0 hC⟩
/-- The first block is read: what is stored into it is what it holds. -/
theorem two_load1 {i : Nat} (h1 : i ≠ i1) (h2 : i ≠ i2) (ty : TypeId) (x : Operand) (ho : o.op = .load ty x) (hx : a.eval x = .pointer (some ⟨g1, 0, none⟩)) (d : TypeDesc) (hc : c1 = A)
    (hu : P.underlying ty = some d) (hd : (match d with | .struct _ | .array _ _ => true | _ => false) = true) (hi : (P.info? ty).map (·.size) = some A.size) : Does P md (Two W g1 g2 t1 t2 c1 A c2 X i1 i2) i o a (.agg A) := fun S w h0 _ hC => by
  obtain ⟨cs, hb, he, _⟩ := hC.b1
  obtain rfl : cs = A := by rcases he with rfl | rfl; exact hc; rfl
  rw [run_load_whole ty x ho g1 hx t1 cs d hb hu hd hi]
  exact ⟨rfl, two_idle h1 h2 S w h0 hC⟩
theorem two_load2 {i : Nat} (h1 : i ≠ i1) (h2 : i ≠ i2) (ty : TypeId) (x : Operand) (ho : o.op = .load ty x) (hx : a.eval x = .pointer (some ⟨g2, 0, none⟩)) (d : TypeDesc) (hc : c2 = X)
    (hu : P.underlying ty = some d) (hd : (match d with | .struct _ | .array _ _ => true | _ => false) = true) (hi : (P.info? ty).map (·.size) = some X.size) : Does P md (Two W g1 g2 t1 t2 c1 A c2 X i1 i2) i o a (.agg X) := fun S w h0 _ hC => by
  obtain ⟨cs, hb, he, _⟩ := hC.b2
  obtain rfl : cs = X := by rcases he with rfl | rfl; exact hc; rfl
  rw [run_load_whole ty x ho g2 hx t2 cs d hb hu hd hi]
  exact ⟨rfl, two_idle h1 h2 S w h0 hC⟩
/-- A call that makes memory and changes none. -/
theorem two_call {i : Nat} {v : Value} (h1 : i ≠ i1) (h2 : i ≠ i2) (f : FuncId) (args : Array Value) (hrun : ∀ w, (execOp a.eval o).run P w = .ok (.enter f args) w) (hc : ∀ w, Calls P f args w (fun e w' => e = .returned v ∧ Below w.heap.size w w')) :
    Does P md (Two W g1 g2 t1 t2 c1 A c2 X i1 i2) i o a v := fun S w _ _ hC => by
  rw [hrun w]
  refine (hc w).mono fun e w' ⟨he, hb⟩ => ⟨he, hC.mod.then_below hb, ?_, ?_⟩
  · obtain ⟨cs, h3, h4, h5⟩ := hC.b1
    exact ⟨cs, (hb.block _ (blk_lt h3)).trans h3, h4, by rw [set_other h1]; exact h5⟩
  · obtain ⟨cs, h3, h4, h5⟩ := hC.b2
    exact ⟨cs, (hb.block _ (blk_lt h3)).trans h3, h4, by rw [set_other h2]; exact h5⟩
theorem two_store1 (h2 : i1 ≠ i2) (hne : g1 ≠ g2) (ty : TypeId) (x y : Operand) (ho : o.op = .store ty x y) (hx : a.eval x = .pointer (some ⟨g1, 0, none⟩)) (hy : a.eval y = .agg A) (hs : c1.size = A.size)
    (hi : (P.info? ty).map (·.size) = some A.size) (h1 : A.all (·.oneCell') = true) : Does P md (Two W g1 g2 t1 t2 c1 A c2 X i1 i2) i1 o a undef := fun S w _ _ hC => by
  obtain ⟨cs, hb, he, _⟩ := hC.b1
  obtain ⟨cs2, hb2, he2, hS2⟩ := hC.b2
  have hsz : cs.size = A.size := by rcases he with rfl | rfl; exact hs; rfl
  rw [run_store_whole ty x y ho g1 A hx hy t1 cs hb hi hsz h1]
  obtain ⟨r1, r2⟩ := row_mod g1 cs A t1 hb
  exact ⟨rfl, hC.mod.trans r2 (fun k hk => .inl (.inl hk)), ⟨A, r1, .inr rfl, fun _ => rfl⟩, ⟨cs2, r2.blk hb2 (fun e => hne e.symm), he2, by rw [set_other h2]; exact hS2⟩⟩
theorem two_store2 (h2 : i2 ≠ i1) (hne : g1 ≠ g2) (ty : TypeId) (x y : Operand) (ho : o.op = .store ty x y) (hx : a.eval x = .pointer (some ⟨g2, 0, none⟩)) (hy : a.eval y = .agg X) (hs : c2.size = X.size)
    (hi : (P.info? ty).map (·.size) = some X.size) (h1 : X.all (·.oneCell') = true) : Does P md (Two W g1 g2 t1 t2 c1 A c2 X i1 i2) i2 o a undef := fun S w _ _ hC => by
  obtain ⟨cs, hb, he, _⟩ := hC.b2
  obtain ⟨cs1, hb1, he1, hS1⟩ := hC.b1
  have hsz : cs.size = X.size := by rcases he with rfl | rfl; exact hs; rfl
  rw [run_store_whole ty x y ho g2 X hx hy t2 cs hb hi hsz h1]
  obtain ⟨r1, r2⟩ := row_mod g2 cs X t2 hb
  exact ⟨rfl, hC.mod.trans r2 (fun k hk => .inl (.inr hk)), ⟨cs1, r2.blk hb1 (fun e => hne e), he1, by rw [set_other h2]; exact hS1⟩, ⟨X, r1, .inr rfl, fun _ => rfl⟩⟩
/-- One block is made and written whole; all that was there stays. -/
structure One (W : World) (t : TypeId) (n : Nat) (X : Array Value) (ia ib : Nat) (S : Array Bool) (w : World) : Prop where
  ord : S.getD ib false = true → S.getD ia false = true
  mod : Mod (fun k => k = W.heap.size) W w
  none_ : S.getD ia false = false → w.heap.size = W.heap.size
  some_ : S.getD ia false = true → ∃ cs, w.heap[W.heap.size]? = some (.cells cs t (0, 0)) ∧ cs.size = n ∧ (S.getD ib false = true → cs = X)
variable {t : TypeId} {n ia ib : Nat}
theorem one_start {m : Nat} : One W t n X ia ib (Array.replicate m false) W.drew := by
  have hn : ∀ i : Nat, ¬ (Array.replicate m false).getD i false = true := fun i h => by
    rw [Array.getD_eq_getD_getElem?, Array.getElem?_replicate] at h
    split at h <;> cases h
  exact ⟨fun h => absurd h (hn ib), (Mod.refl _ _).drew, fun _ => rfl, fun h => absurd h (hn ia)⟩
theorem one_end {m : Nat} {w : World} (h : One W t n X ia ib (Array.replicate m true) w) (h1 : ia < m) (h2 : ib < m) : Below W.heap.size W w ∧ w.heap[W.heap.size]? = some (.cells X t (0, 0)) := by
  have hn : ∀ i : Nat, i < m → (Array.replicate m true).getD i false = true := fun i hi => by
    rw [Array.getD_eq_getD_getElem?, Array.getElem?_replicate, if_pos hi]
    rfl
  obtain ⟨x, hx, _, hx2⟩ := h.some_ (hn _ h1)
  obtain rfl := hx2 (hn _ h2)
  exact ⟨h.mod.below_all (fun k hk => Nat.le_of_eq hk.symm), hx⟩
theorem one_idle {i : Nat} (h1 : i ≠ ia) (h2 : i ≠ ib) : Idle (One W t n X ia ib) i := fun S w _ h =>
  ⟨by rw [set_other h1, set_other h2]; exact h.ord, h.mod, by rw [set_other h1]; exact h.none_, by rw [set_other h1, set_other h2]; exact h.some_⟩
theorem one_pure {i : Nat} {v : Value} (h1 : i ≠ ia) (h2 : i ≠ ib) (h : ∀ w, (execOp a.eval o).run P w = .ok (.value v) w) : Does P md (One W t n X ia ib) i o a v := does_pure (one_idle h1 h2) h
/-- A cell that was there is read. -/
theorem one_load {i : Nat} {v : Value} (h1 : i ≠ ia) (h2 : i ≠ ib) (p : Addr) (hc : W.cell? p = some v) (hp : p.block < W.heap.size) (h : ∀ w : World, w.cell? p = some v → (execOp a.eval o).run P w = .ok (.value v) w) :
    Does P md (One W t n X ia ib) i o a v := fun S w h0 _ hC => by
  have hb := hC.mod.block p.block hp (fun e => by omega)
  rw [h w (by rw [← hc]; unfold World.cell?; rw [hb])]
  exact ⟨rfl, one_idle h1 h2 S w h0 hC⟩
/-- A call that leaves the world alone. -/
theorem one_call {i : Nat} {v : Value} (h1 : i ≠ ia) (h2 : i ≠ ib) (f : FuncId) (args : Array Value) (hrun : ∀ w, (execOp a.eval o).run P w = .ok (.enter f args) w) (hc : ∀ w, Calls P f args w (fun e w' => e = .returned v ∧ w = w')) :
    Does P md (One W t n X ia ib) i o a v := fun S w h0 _ hC => by
  rw [hrun w]
  refine (hc w).mono fun e w' ⟨he, hw⟩ => ⟨he, ?_⟩
  subst hw
  exact one_idle h1 h2 S w h0 hC
theorem set_same {S : Array Bool} {i : Nat} (h : S.getD i true = false) : (S.setIfInBounds i true).getD i false = true := by
  have hi : i < S.size := by
    rcases Nat.lt_or_ge i S.size with h' | h'
    · exact h'
    · rw [Array.getD_eq_getD_getElem?, Array.getElem?_eq_none h'] at h
      cases h
  rw [Array.getD_eq_getD_getElem?, Array.getElem?_setIfInBounds_self, if_pos hi]
  rfl
theorem get_false {S : Array Bool} {i : Nat} (h : S.getD i true = false) : S.getD i false = false := by
  rw [Array.getD_eq_getD_getElem?] at h ⊢
  cases hg : S[i]? with
  | none => rfl
  | some b => rw [hg] at h; exact h
theorem one_alloc {z : Array Value} (h2 : ia ≠ ib) (hz : z.size = n) (hrun : ∀ w, (execOp a.eval o).run P w = .ok (.value (.pointer (some ⟨w.heap.size, 0, none⟩))) (w.alloc (.cells z t))) :
    Does P md (One W t n X ia ib) ia o a (.pointer (some ⟨W.heap.size, 0, none⟩)) := fun S w h0 _ hC => by
  have hs := hC.none_ (get_false h0)
  have hb : S.getD ib false = false := by
    cases h : S.getD ib false
    · rfl
    · have := hC.ord h
      rw [get_false h0] at this
      cases this
  rw [hrun w]
  refine ⟨by rw [hs], ⟨?_, hC.mod.alloc _, ?_, ?_⟩⟩
  · intro _
    exact set_same h0
  · intro h
    rw [set_same h0] at h
    cases h
  · intro _
    refine ⟨z, by rw [← hs]; exact blk_new w _, hz, fun h => ?_⟩
    rw [set_other h2, hb] at h
    cases h
theorem one_store (h2 : ib ≠ ia) (ty : TypeId) (x y : Operand) (ho : o.op = .store ty x y) (hx : a.eval x = .pointer (some ⟨W.heap.size, 0, none⟩)) (hy : a.eval y = .agg X) (hn : X.size = n) (hi : (P.info? ty).map (·.size) = some X.size) (h1 : X.all (·.oneCell') = true)
    (hd : ∀ S, Deps md o S → S.getD ia false = true) : Does P md (One W t n X ia ib) ib o a undef := fun S w _ hdp hC => by
  obtain ⟨cs, hb, hs, _⟩ := hC.some_ (hd S hdp)
  rw [run_store_whole ty x y ho W.heap.size X hx hy t cs hb hi (hs.trans hn.symm) h1]
  obtain ⟨r1, r2⟩ := row_mod W.heap.size cs X t hb
  refine ⟨rfl, ⟨?_, hC.mod.trans r2 (fun k hk => .inl hk), ?_, ?_⟩⟩
  · intro _
    rw [set_other h2]
    exact hd S hdp
  · rw [set_other h2]
    intro h
    rw [hd S hdp] at h
    cases h
  · intro _
    exact ⟨X, r1, hn, fun _ => rfl⟩
end
section
variable {P : Program} {fn : Func} {p q : Tmp} {ty tq : TypeId} {tmps : Array Value} {w : World} {g g' : Nat} {t t' : TypeId} {cs cs' : Array Value} {d d' : TypeDesc}
theorem results_c1 {r : Tmp} (h : fn.results = #[.cell p ty, .tmp r]) (hp : tmps.getD p undef = .pointer (some ⟨g, 0, none⟩)) (hg : w.heap[g]? = some (.cells cs t (0, 0)))
    (hu : P.underlying ty = some d) (hd : (match d with | .struct _ | .array _ _ => true | _ => false) = true) (hi : (P.info? ty).map (·.size) = some cs.size) {v : Value} (hv : tmps.getD r undef = v) :
    (results fn tmps).run P w = .ok (.tuple #[.agg cs, v]) w := by
  have hp' : tmps[p]?.getD undef = .pointer (some ⟨g, 0, none⟩) := by simpa using hp
  have hv' : tmps[r]?.getD undef = v := by simpa using hv
  simp [results, h, hp', hv', asAddr, run_loadVar_row w g t ty cs (0, 0) d hg hu hd hi]
theorem results_c2 {r : Tmp} (h : fn.results = #[.cell p ty, .cell q tq, .tmp r]) (hp : tmps.getD p undef = .pointer (some ⟨g, 0, none⟩)) (hg : w.heap[g]? = some (.cells cs t (0, 0)))
    (hu : P.underlying ty = some d) (hd : (match d with | .struct _ | .array _ _ => true | _ => false) = true) (hi : (P.info? ty).map (·.size) = some cs.size)
    (hq : tmps.getD q undef = .pointer (some ⟨g', 0, none⟩)) (hg' : w.heap[g']? = some (.cells cs' t' (0, 0)))
    (hu' : P.underlying tq = some d') (hd' : (match d' with | .struct _ | .array _ _ => true | _ => false) = true) (hi' : (P.info? tq).map (·.size) = some cs'.size) {v : Value} (hv : tmps.getD r undef = v) :
    (results fn tmps).run P w = .ok (.tuple #[.agg cs, .agg cs', v]) w := by
  have hp' : tmps[p]?.getD undef = .pointer (some ⟨g, 0, none⟩) := by simpa using hp
  have hq' : tmps[q]?.getD undef = .pointer (some ⟨g', 0, none⟩) := by simpa using hq
  have hv' : tmps[r]?.getD undef = v := by simpa using hv
  simp [results, h, hp', hq', hv', asAddr, run_loadVar_row w g t ty cs (0, 0) d hg hu hd hi, run_loadVar_row w g' t' tq cs' (0, 0) d' hg' hu' hd' hi']
theorem results_c3 {r s : Tmp} (h : fn.results = #[.cell p ty, .cell q tq, .tmp r, .tmp s]) (hp : tmps.getD p undef = .pointer (some ⟨g, 0, none⟩)) (hg : w.heap[g]? = some (.cells cs t (0, 0)))
    (hu : P.underlying ty = some d) (hd : (match d with | .struct _ | .array _ _ => true | _ => false) = true) (hi : (P.info? ty).map (·.size) = some cs.size)
    (hq : tmps.getD q undef = .pointer (some ⟨g', 0, none⟩)) (hg' : w.heap[g']? = some (.cells cs' t' (0, 0)))
    (hu' : P.underlying tq = some d') (hd' : (match d' with | .struct _ | .array _ _ => true | _ => false) = true) (hi' : (P.info? tq).map (·.size) = some cs'.size) {v u : Value} (hv : tmps.getD r undef = v) (hs : tmps.getD s undef = u) :
    (results fn tmps).run P w = .ok (.tuple #[.agg cs, .agg cs', v, u]) w := by
  have hp' : tmps[p]?.getD undef = .pointer (some ⟨g, 0, none⟩) := by simpa using hp
  have hq' : tmps[q]?.getD undef = .pointer (some ⟨g', 0, none⟩) := by simpa using hq
  have hv' : tmps[r]?.getD undef = v := by simpa using hv
  have hs' : tmps[s]?.getD undef = u := by simpa using hs
  simp [results, h, hp', hq', hv', hs', asAddr, run_loadVar_row w g t ty cs (0, 0) d hg hu hd hi, run_loadVar_row w g' t' tq cs' (0, 0) d' hg' hu' hd' hi']
end
end Go.Proofs.YtepklobkppdliaaDoor.Ev
end

/- Three appends and a store in any order. -/
import Derived.Test.YtepklobkppdliaaDoorURm1
import Derived.Test.YtepklobkppdliaaDoorUEv3
import Derived.Maps.AppendAt
namespace Go.Proofs.YtepklobkppdliaaDoor.Rm
open Go.RowKit Go.Proofs.YtepklobkppdliaaDoorW.PrintWords Go.Proofs.YtepklobkppdliaaDoorW.PrintLast Go.Proofs.YtepklobkppdliaaDoorW.PrintMore Go.Proofs.YtepklobkppdliaaDoor.Lib Go.Proofs.YtepklobkppdliaaDoor.Open Go.Proofs.YtepklobkppdliaaDoor.Md
/-- Where the appended cells lie: nowhere, or at an address. -/
def Src (w : World) (A : Option Addr) (m : Nat) (news : List Value) : Prop := (A = none ∧ m = 0 ∧ news = []) ∨ ∃ ad, A = some ad ∧ ∀ j u, news[j]? = some u → w.cell? (ad.add j) = some u
theorem run_append_src {P : Program} {w : World} (base : Nat) (t ty e : TypeId) (z : Value) (size bytes : Nat) (ht : P.underlying t = some (.slice e)) (hinfo : (P.info? e).map (fun i => (i.zero, i.size, i.bytes)) = some (some z, size, bytes)) (hz : z.cells.size = size) (hs0 : 0 < size)
    (v : Value) (n : Nat) (xs : List Value) (hown : w.ownsRow base e size v n xs) (A : Option Addr) (m c : Nat) (news : List Value) (hl : news.length = m * size) (hs : Src w A m news) (h1 : ∀ u ∈ news, u.oneCell' = true)
    (h63 : n + m ≤ maxLen) (hbytes : (n + m) * bytes ≤ 140737488355328) (hbase : base ≤ w.heap.size) :
    ∃ v' w', (Builtin.append_ #[t, t] ty #[v, .slice A m c]).run P w = .ok v' w' ∧ w'.ownsRow base e size v' (n + m) (xs ++ news) ∧ Mod (fun k => some k = v.ownBlock) w w' ∧ (v'.ownBlock = v.ownBlock ∨ v'.ownBlock = some w.heap.size) := by
  obtain ⟨i0, hi, hzz⟩ := Option.map_eq_some_iff.1 hinfo
  simp only [Prod.mk.injEq] at hzz
  obtain ⟨hz0, hz1, hz2⟩ := hzz
  rcases hs with ⟨rfl, rfl, rfl⟩ | ⟨ad, rfl, hnews⟩
  · refine ⟨v, w, ?_, by simpa using hown, Mod.refl _ _, .inl rfl⟩
    rcases hown.2 with ⟨rfl, rfl⟩ | ⟨g, cap, cur, rfl, hbg, hg, hnc, hcm, hcs, htake⟩
    · simp [Builtin.append_, run_underlying ht, sizeOf, typeInfo, hi, Builtin.lenOf, Builtin.firstCells]
    · simp [Builtin.append_, run_underlying ht, sizeOf, typeInfo, hi, Builtin.lenOf, Builtin.firstCells, hnc, storeCells]
  · obtain ⟨v', w', hr, h2, h3, h4, h5⟩ := run_append_own_at (P := P) w base t ty e i0 z size bytes ht hi hz0 hz1 hz2 hz hs0 v n xs hown ad m c news hl hnews h1 h63 hbytes hbase
    exact ⟨v', w', hr, h2, Mod.of_grown h3, h5⟩
theorem run_append_op {P : Program} {w : World} {o : Oper} {a : Act} (s x : Operand) (t : TypeId) (ho : o.op = .call { callee := .builtin .append, args := #[s, x], argTypes := #[t, t] }) {v y v' : Value} {w' : World} (hs : a.eval s = v) (hx : a.eval x = y) (hr : (Builtin.append_ #[t, t] o.type #[v, y]).run P w = .ok v' w') :
    (execOp a.eval o).run P w = .ok (.value v') w' := by
  unfold execOp
  simp only [ho, resolve, invoke, builtin, Sem.run_bind, Sem.run_pure, Result.andThen_ok, List.map_toArray, List.map_cons, List.map_nil, hs, hx, hr]
/-- What was not known ahead: the rows' slices, and where the literal lies. -/
structure Cg where
  v0 : Value
  v1 : Value
  v2 : Value
  v3 : Value
  lt : Nat
def curV (γ : Cg) (S : Array Bool) : Value := if S.getD 18 false = true then γ.v3 else if S.getD 11 false = true then γ.v2 else if S.getD 8 false = true then γ.v1 else γ.v0
def curN (n1 n3 : Nat) (S : Array Bool) : Nat := if S.getD 18 false = true then n1 + 1 + n3 else if S.getD 11 false = true then n1 + 1 else if S.getD 8 false = true then n1 else 0
def curX (X1 Xl X3 : List Value) (S : Array Bool) : List Value := if S.getD 18 false = true then X1 ++ Xl ++ X3 else if S.getD 11 false = true then X1 ++ Xl else if S.getD 8 false = true then X1 else []
/-- append(append(append([]T{}, A...), e), B...), stored into a struct of one cell, under way in any order. -/
structure Chain (W : World) (m : Nat) (v : Value) (n1 n3 : Nat) (X1 Xl X3 : List Value) (γ : Cg) (S : Array Bool) (w : World) : Prop where
  mod : Mod (fun k => k = m) W w
  cell : w.heap[m]? = some (.cells #[if S.getD 21 false = true then γ.v3 else v] 75 (0, 0))
  last : S.getD 21 false = true → ∀ j, j ≤ 18 → S.getD j false = true
  o1 : S.getD 8 false = true → S.getD 1 false = true
  o2 : S.getD 11 false = true → S.getD 8 false = true ∧ S.getD 10 false = true
  o3 : S.getD 18 false = true → S.getD 11 false = true
  row : S.getD 1 false = true → w.ownsRow W.heap.size 38 5 (curV γ S) (curN n1 n3 S) (curX X1 Xl X3 S)
  lit : S.getD 10 false = true → W.heap.size ≤ γ.lt ∧ w.heap[γ.lt]? = some (.cells Xl.toArray 38 (0, 0))
  apart : S.getD 1 false = true → S.getD 10 false = true → (curV γ S).ownBlock ≠ some γ.lt
theorem set_mono {S : Array Bool} {k j : Nat} (h : S.getD j false = true) : (S.setIfInBounds k true).getD j false = true := by
  by_cases e : k = j
  · subst e
    rw [Array.getD_eq_getD_getElem?] at h ⊢
    rw [Array.getElem?_setIfInBounds_self]
    split
    · rfl
    · rename_i hlt
      rw [Array.getElem?_eq_none (by omega)] at h
      cases h
  · rw [Ev.set_other e]; exact h
section
variable {P : Program} {ops : Array Oper} {l : Cg → List (Option Tmp × Value)} {a0 : Act} {Q' : Exit → Act → World → Prop} {o : Oper} {k : Nat}
variable {W w w' : World} {m : Nat} {v : Value} {n1 n3 : Nat} {X1 Xl X3 : List Value} {γ : Cg} {S : Array Bool}
theorem Chain.open_ (h : Chain W m v n1 n3 X1 Xl X3 γ S w) (h0 : S.getD k true = false) (hk : k ≤ 18) : S.getD 21 false = false := by
  cases h1 : S.getD 21 false
  · rfl
  · have := h.last h1 k hk
    rw [Ev.get_false h0] at this
    cases this
theorem chain_start {n : Nat} (h : W.heap[m]? = some (.cells #[v] 75 (0, 0))) : Chain W m v n1 n3 X1 Xl X3 γ (Array.replicate n false) W.drew := by
  refine ⟨(Mod.refl _ _).drew, ?_, fun h => absurd h Ev.not_repl, fun h => absurd h Ev.not_repl, fun h => absurd h Ev.not_repl, fun h => absurd h Ev.not_repl, fun h => absurd h Ev.not_repl, fun h => absurd h Ev.not_repl, fun h => absurd h Ev.not_repl⟩
  rw [if_neg Ev.not_repl]
  exact h
theorem chain_idle (hk : k ≠ 1 ∧ k ≠ 8 ∧ k ≠ 10 ∧ k ≠ 11 ∧ k ≠ 18 ∧ k ≠ 21) (h : Chain W m v n1 n3 X1 Xl X3 γ S w) : Chain W m v n1 n3 X1 Xl X3 γ (S.setIfInBounds k true) w := by
  obtain ⟨k1, k8, k10, k11, k18, k21⟩ := hk
  obtain ⟨h1, h2, h3, h4, h5, h6, h7, h8, h9⟩ := h
  refine ⟨h1, ?_, ?_, ?_, ?_, ?_, ?_, ?_, ?_⟩ <;> simp only [curV, curN, curX, Ev.set_other k1, Ev.set_other k8, Ev.set_other k10, Ev.set_other k11, Ev.set_other k18, Ev.set_other k21]
  · exact h2
  · exact fun hq j hj => set_mono (h3 hq j hj)
  · exact h4
  · exact h5
  · exact h6
  · exact h7
  · exact h8
  · exact h9
/-- An operation that computes. -/
theorem chain_pure (hF : Ev.Fit ops l a0) (hk : ops[k]? = some o) (hg : o.guard = none) (hr : Ev.readsOk ops o = true) (hsel : ∀ cs b, o.op ≠ .select cs b) (u : Cg → Value) (hv : ∀ γ, (l γ)[k]? = some (o.dst, u γ)) (hi : k ≠ 1 ∧ k ≠ 8 ∧ k ≠ 10 ∧ k ≠ 11 ∧ k ≠ 18 ∧ k ≠ 21)
    (hrun : ∀ γ w, (execOp (Ev.putAll (l γ) a0).eval o).run P w = .ok (.value (u γ)) w) : Ev.Step P ops (Ev.Gh l a0 (Chain W m v n1 n3 X1 Xl X3)) Q' k o :=
  Ev.gh_val hF hk hg hr hsel u hv (fun _ _ _ h => chain_idle hi h) (fun γ _ w _ => hrun γ w)
/-- .. that reads what was there. -/
theorem chain_read (hF : Ev.Fit ops l a0) (hk : ops[k]? = some o) (hg : o.guard = none) (hr : Ev.readsOk ops o = true) (hsel : ∀ cs b, o.op ≠ .select cs b) (u : Cg → Value) (hv : ∀ γ, (l γ)[k]? = some (o.dst, u γ)) (hi : k ≠ 1 ∧ k ≠ 8 ∧ k ≠ 10 ∧ k ≠ 11 ∧ k ≠ 18 ∧ k ≠ 21) (hk2 : k ≤ 18)
    (hrun : ∀ γ w, Mod (fun k => k = m) W w → w.heap[m]? = some (.cells #[v] 75 (0, 0)) → (execOp (Ev.putAll (l γ) a0).eval o).run P w = .ok (.value (u γ)) w) : Ev.Step P ops (Ev.Gh l a0 (Chain W m v n1 n3 X1 Xl X3)) Q' k o :=
  Ev.gh_step hF hk hg hr hsel fun γ S w h0 _ hI => by
    have hc := hI.cell
    rw [if_neg (by rw [hI.open_ h0 hk2]; decide)] at hc
    rw [hrun γ w hI.mod hc]
    exact ⟨γ, hv γ, fun _ _ => rfl, chain_idle hi hI⟩
/-- []T{}. -/
theorem chain_new (hF : Ev.Fit ops l a0) (hk : ops[1]? = some o) (hg : o.guard = none) (hr : Ev.readsOk ops o = true) (hsel : ∀ cs b, o.op ≠ .select cs b) (hv : ∀ γ, (l γ)[1]? = some (o.dst, γ.v0)) (hx : ∀ (γ : Cg) u j, j ≠ 1 → (l ⟨u, γ.v1, γ.v2, γ.v3, γ.lt⟩)[j]? = (l γ)[j]?)
    (hrun : ∀ γ w, (execOp (Ev.putAll (l γ) a0).eval o).run P w = .ok (.value (.slice (some ⟨w.heap.size, 0, none⟩) 0 0)) (w.alloc (.cells #[] 38))) : Ev.Step P ops (Ev.Gh l a0 (Chain W m v n1 n3 X1 Xl X3)) Q' 1 o :=
  Ev.gh_step hF hk hg hr hsel fun γ S w h0 _ hI => by
    rw [hrun γ w]
    have hq := hI.open_ h0 (by decide)
    have q1 : S.getD 1 false = false := Ev.get_false h0
    have q8 : S.getD 8 false = false := Bool.eq_false_iff.2 fun e => by have := hI.o1 e; rw [q1] at this; cases this
    have q11 : S.getD 11 false = false := Bool.eq_false_iff.2 fun e => by have := (hI.o2 e).1; rw [q8] at this; cases this
    have q18 : S.getD 18 false = false := Bool.eq_false_iff.2 fun e => by have := hI.o3 e; rw [q11] at this; cases this
    have hc := hI.cell
    refine ⟨⟨.slice (some ⟨w.heap.size, 0, none⟩) 0 0, γ.v1, γ.v2, γ.v3, γ.lt⟩, hv _, hx γ _, hI.mod.alloc _, ?_, ?_, ?_, ?_, ?_, ?_, ?_, ?_⟩ <;> simp only [curV, curN, curX, Ev.set_same h0, Ev.set_other (show (1 : Nat) ≠ 8 by decide), Ev.set_other (show (1 : Nat) ≠ 10 by decide), Ev.set_other (show (1 : Nat) ≠ 11 by decide), Ev.set_other (show (1 : Nat) ≠ 18 by decide), Ev.set_other (show (1 : Nat) ≠ 21 by decide), q8, q11, q18, hq, Bool.false_eq_true, if_false, false_implies, true_implies] at hc ⊢
    · exact blk_alloc hc _
    · exact own_empty hI.mod.size (blk_new w _)
    · exact fun h => ⟨(hI.lit h).1, blk_alloc (hI.lit h).2 _⟩
    · exact fun h e => by
        have h1 := blk_lt (hI.lit h).2
        have h2 : w.heap.size = γ.lt := Option.some.inj e
        omega
/-- The literal of one. -/
theorem chain_lit (hF : Ev.Fit ops l a0) (hk : ops[10]? = some o) (hg : o.guard = none) (hr : Ev.readsOk ops o = true) (hsel : ∀ cs b, o.op ≠ .select cs b) (hv : ∀ γ, (l γ)[10]? = some (o.dst, .slice (some ⟨γ.lt, 0, none⟩) 1 1)) (hx : ∀ (γ : Cg) u j, j ≠ 10 → (l ⟨γ.v0, γ.v1, γ.v2, γ.v3, u⟩)[j]? = (l γ)[j]?)
    (hrun : ∀ γ w, (execOp (Ev.putAll (l γ) a0).eval o).run P w = .ok (.value (.slice (some ⟨w.heap.size, 0, none⟩) 1 1)) (w.alloc (.cells Xl.toArray 38))) : Ev.Step P ops (Ev.Gh l a0 (Chain W m v n1 n3 X1 Xl X3)) Q' 10 o :=
  Ev.gh_step hF hk hg hr hsel fun γ S w h0 _ hI => by
    rw [hrun γ w]
    have hq := hI.open_ h0 (by decide)
    have q10 : S.getD 10 false = false := Ev.get_false h0
    have q11 : S.getD 11 false = false := Bool.eq_false_iff.2 fun e => by have := (hI.o2 e).2; rw [q10] at this; cases this
    have q18 : S.getD 18 false = false := Bool.eq_false_iff.2 fun e => by have := hI.o3 e; rw [q11] at this; cases this
    have hc := hI.cell
    have hrow := hI.row
    have ho1 := hI.o1
    refine ⟨⟨γ.v0, γ.v1, γ.v2, γ.v3, w.heap.size⟩, hv _, hx γ _, hI.mod.alloc _, ?_, ?_, ?_, ?_, ?_, ?_, ?_, ?_⟩ <;> simp only [curV, curN, curX, Ev.set_same h0, Ev.set_other (show (10 : Nat) ≠ 8 by decide), Ev.set_other (show (10 : Nat) ≠ 1 by decide), Ev.set_other (show (10 : Nat) ≠ 11 by decide), Ev.set_other (show (10 : Nat) ≠ 18 by decide), Ev.set_other (show (10 : Nat) ≠ 21 by decide), q11, q18, hq, Bool.false_eq_true, if_false, false_implies, true_implies] at hc hrow ⊢
    · exact blk_alloc hc _
    · exact ho1
    · exact fun h => (hrow h).alloc _
    · exact ⟨hI.mod.size, blk_new w _⟩
    · exact fun h e => by
        have h1 := own_lt (hrow h) _ e
        omega
/-- The store. -/
theorem chain_store (hF : Ev.Fit ops l a0) (hk : ops[21]? = some o) (hg : o.guard = none) (hr : Ev.readsOk ops o = true) (hsel : ∀ cs b, o.op ≠ .select cs b) (hv : ∀ γ, (l γ)[21]? = some (o.dst, undef)) (hm : m < W.heap.size) (hall : ∀ S, Ev.Deps .any o S → ∀ j, j ≤ 18 → S.getD j false = true)
    (hrun : ∀ (γ : Cg) w A n c, γ.v3 = .slice A n c → w.cell? ⟨m, 0, none⟩ = some v → w.frozen? ⟨m, 0, none⟩ = false → (execOp (Ev.putAll (l γ) a0).eval o).run P w = .ok .skip (w.setCell ⟨m, 0, none⟩ γ.v3)) : Ev.Step P ops (Ev.Gh l a0 (Chain W m v n1 n3 X1 Xl X3)) Q' 21 o :=
  Ev.gh_step hF hk hg hr hsel fun γ S w h0 hd hI => by
    have ha := hall S hd
    have hc := hI.cell
    rw [if_neg (by rw [Ev.get_false h0]; decide)] at hc
    have hrow := hI.row (ha 1 (by decide))
    have hl := hI.lit (ha 10 (by decide))
    have hap := hI.apart (ha 1 (by decide)) (ha 10 (by decide))
    have e18 := ha 18 (by decide)
    simp only [curV, curN, curX, e18, if_true] at hrow hap
    obtain ⟨A, c, hsl⟩ := own_slice hrow
    rw [hrun γ w A _ c hsl (blk_cell hc 0) (blk_frozen hc 0)]
    refine ⟨γ, hv γ, fun _ _ => rfl, hI.mod.setCell (.inl rfl) _, ?_, ?_, ?_, ?_, ?_, ?_, ?_, ?_⟩ <;> simp only [curV, curN, curX, Ev.set_same h0, Ev.set_other (show (21 : Nat) ≠ 8 by decide), Ev.set_other (show (21 : Nat) ≠ 1 by decide), Ev.set_other (show (21 : Nat) ≠ 10 by decide), Ev.set_other (show (21 : Nat) ≠ 11 by decide), Ev.set_other (show (21 : Nat) ≠ 18 by decide), e18, if_true, true_implies]
    · exact blk_put hc 0 _ rfl
    · exact fun j hj => set_mono (ha j hj)
    · exact fun _ => ha 1 (by decide)
    · exact fun _ => ⟨ha 8 (by decide), ha 10 (by decide)⟩
    · exact ha 11 (by decide)
    · exact fun _ => own_setCell hrow (fun e => by have := own_base hrow _ e.symm; have h : W.heap.size ≤ m := this; omega) _
    · exact fun _ => ⟨hl.1, blk_far hl.2 (by show γ.lt ≠ m; have := hl.1; omega) _⟩
    · exact fun _ _ => hap
theorem chain_end {n : Nat} (h : Chain W m v n1 n3 X1 Xl X3 γ (Array.replicate n true) w) (hn : 22 ≤ n) : Mod (fun k => k = m) W w ∧ w.heap[m]? = some (.cells #[γ.v3] 75 (0, 0)) ∧ w.ownsRow W.heap.size 38 5 γ.v3 (n1 + 1 + n3) (X1 ++ Xl ++ X3) := by
  have hc := h.cell
  have hr := h.row (Ev.repl_at (by omega))
  rw [if_pos (Ev.repl_at (by omega))] at hc
  unfold curV curN curX at hr
  rw [if_pos (Ev.repl_at (by omega)), if_pos (Ev.repl_at (by omega)), if_pos (Ev.repl_at (by omega))] at hr
  exact ⟨h.mod, hc, hr⟩
/-- append, first. -/
theorem chain_app_a (hF : Ev.Fit ops l a0) (hk : ops[8]? = some o) (hg : o.guard = none) (hr : Ev.readsOk ops o = true) (hsel : ∀ cs b, o.op ≠ .select cs b) (hv : ∀ γ, (l γ)[8]? = some (o.dst, γ.v1)) (hx : ∀ (γ : Cg) u j, j ≠ 8 → (l ⟨γ.v0, u, γ.v2, γ.v3, γ.lt⟩)[j]? = (l γ)[j]?)
    (s x : Operand) (t : TypeId) (ho : o.op = .call { callee := .builtin .append, args := #[s, x], argTypes := #[t, t] }) (z : Value) (bytes : Nat) (ht : P.underlying t = some (.slice 38)) (hinfo : (P.info? 38).map (fun i => (i.zero, i.size, i.bytes)) = some (some z, 5, bytes)) (hz : z.cells.size = 5)
    (A : Option Addr) (c : Nat) (hes : ∀ γ, (Ev.putAll (l γ) a0).eval s = γ.v0) (hex : ∀ γ, (Ev.putAll (l γ) a0).eval x = .slice A n1 c) (hl : (X1).length = n1 * 5) (h1 : ∀ u ∈ X1, u.oneCell' = true) (hs : ∀ w, Mod (fun k => k = m) W w → Src w A n1 X1) (h63 : 0 + n1 ≤ maxLen) (hbytes : (0 + n1) * bytes ≤ 140737488355328) (hm : m < W.heap.size)
    (hd1 : ∀ S, Ev.Deps .any o S → S.getD 1 false = true) : Ev.Step P ops (Ev.Gh l a0 (Chain W m v n1 n3 X1 Xl X3)) Q' 8 o :=
  Ev.gh_step hF hk hg hr hsel fun γ S w h0 hd hI => by
    have hq := hI.open_ h0 (by decide)
    have p1 := hd1 S hd
    have e1 := p1
    have q8 : S.getD 8 false = false := Ev.get_false h0
    have q11 : S.getD 11 false = false := Bool.eq_false_iff.2 fun e => by have := (hI.o2 e).1; rw [q8] at this; cases this
    have q18 : S.getD 18 false = false := Bool.eq_false_iff.2 fun e => by have := hI.o3 e; rw [q11] at this; cases this
    have hc := hI.cell
    have hrow := hI.row e1
    have hap := hI.apart e1
    simp only [curV, curN, curX, q8, q11, q18, hq, Bool.false_eq_true, if_false] at hc hrow hap
    obtain ⟨v', w', hrn, h2, h3, h5⟩ := run_append_src (P := P) (w := w) W.heap.size t o.type 38 z 5 bytes ht hinfo hz (by decide) _ _ _ hrow A n1 c X1 hl (hs w hI.mod) h1 h63 hbytes hI.mod.size
    rw [run_append_op s x t ho (hes γ) (hex γ) hrn]
    have hge := own_base hrow
    rw [Nat.zero_add, List.nil_append] at h2
    refine ⟨⟨γ.v0, v', γ.v2, γ.v3, γ.lt⟩, hv _, hx γ _, hI.mod.trans h3 (fun q hq => .inr (hge q hq.symm)), ?_, ?_, ?_, ?_, ?_, ?_, ?_, ?_⟩ <;> simp only [curV, curN, curX, Ev.set_same h0, Ev.set_other (show (8 : Nat) ≠ 1 by decide), Ev.set_other (show (8 : Nat) ≠ 10 by decide), Ev.set_other (show (8 : Nat) ≠ 11 by decide), Ev.set_other (show (8 : Nat) ≠ 18 by decide), Ev.set_other (show (8 : Nat) ≠ 21 by decide), q11, q18, e1, hq, Bool.false_eq_true, if_false, if_true, false_implies, true_implies, implies_true, true_and] at hc ⊢
    all_goals first
      | exact h3.blk hc (fun e => by have := hge _ e.symm; omega)
      | exact h2
      | exact fun h => ⟨(hI.lit h).1, h3.blk (hI.lit h).2 (fun e => hap h e.symm)⟩
      | exact fun h e => h5.elim (fun e2 => hap h (e2.symm.trans e)) (fun e2 => by have h6 := blk_lt (hI.lit h).2; have h7 := Option.some.inj (e2.symm.trans e); omega)
/-- append, second. -/
theorem chain_app_b (hF : Ev.Fit ops l a0) (hk : ops[11]? = some o) (hg : o.guard = none) (hr : Ev.readsOk ops o = true) (hsel : ∀ cs b, o.op ≠ .select cs b) (hv : ∀ γ, (l γ)[11]? = some (o.dst, γ.v2)) (hx : ∀ (γ : Cg) u j, j ≠ 11 → (l ⟨γ.v0, γ.v1, u, γ.v3, γ.lt⟩)[j]? = (l γ)[j]?)
    (s x : Operand) (t : TypeId) (ho : o.op = .call { callee := .builtin .append, args := #[s, x], argTypes := #[t, t] }) (z : Value) (bytes : Nat) (ht : P.underlying t = some (.slice 38)) (hinfo : (P.info? 38).map (fun i => (i.zero, i.size, i.bytes)) = some (some z, 5, bytes)) (hz : z.cells.size = 5)
    (hes : ∀ γ, (Ev.putAll (l γ) a0).eval s = γ.v1) (hex : ∀ γ, (Ev.putAll (l γ) a0).eval x = .slice (some ⟨γ.lt, 0, none⟩) 1 1) (hl : (Xl).length = 1 * 5) (h1 : ∀ u ∈ Xl, u.oneCell' = true)  (h63 : n1 + 1 ≤ maxLen) (hbytes : (n1 + 1) * bytes ≤ 140737488355328) (hm : m < W.heap.size)
    (hd1 : ∀ S, Ev.Deps .any o S → S.getD 8 false = true) (hd2 : ∀ S, Ev.Deps .any o S → S.getD 10 false = true) : Ev.Step P ops (Ev.Gh l a0 (Chain W m v n1 n3 X1 Xl X3)) Q' 11 o :=
  Ev.gh_step hF hk hg hr hsel fun γ S w h0 hd hI => by
    have hq := hI.open_ h0 (by decide)
    have p1 := hd1 S hd
    have p8 := p1
    have e1 := hI.o1 p8
    have p10 := hd2 S hd
    have hlit := hI.lit p10
    have q11 : S.getD 11 false = false := Ev.get_false h0
    have q18 : S.getD 18 false = false := Bool.eq_false_iff.2 fun e => by have := hI.o3 e; rw [q11] at this; cases this
    have hc := hI.cell
    have hrow := hI.row e1
    have hap := hI.apart e1
    simp only [curV, curN, curX, p8, q11, q18, hq, Bool.false_eq_true, if_false, if_true] at hc hrow hap
    obtain ⟨v', w', hrn, h2, h3, h5⟩ := run_append_src (P := P) (w := w) W.heap.size t o.type 38 z 5 bytes ht hinfo hz (by decide) _ _ _ hrow (some ⟨γ.lt, 0, none⟩) 1 1 Xl hl (.inr ⟨_, rfl, fun j u hu => by rw [Addr.add_mid, Nat.zero_add, blk_cell hlit.2]; simpa using hu⟩) h1 h63 hbytes hI.mod.size
    rw [run_append_op s x t ho (hes γ) (hex γ) hrn]
    have hge := own_base hrow
    refine ⟨⟨γ.v0, γ.v1, v', γ.v3, γ.lt⟩, hv _, hx γ _, hI.mod.trans h3 (fun q hq => .inr (hge q hq.symm)), ?_, ?_, ?_, ?_, ?_, ?_, ?_, ?_⟩ <;> simp only [curV, curN, curX, Ev.set_same h0, Ev.set_other (show (11 : Nat) ≠ 1 by decide), Ev.set_other (show (11 : Nat) ≠ 8 by decide), Ev.set_other (show (11 : Nat) ≠ 10 by decide), Ev.set_other (show (11 : Nat) ≠ 18 by decide), Ev.set_other (show (11 : Nat) ≠ 21 by decide), p8, q18, p10, e1, hq, Bool.false_eq_true, if_false, if_true, false_implies, true_implies, implies_true, and_true] at hc ⊢
    all_goals first
      | exact h3.blk hc (fun e => by have := hge _ e.symm; omega)
      | exact h2
      | exact ⟨(hI.lit p10).1, h3.blk (hI.lit p10).2 (fun e => hap p10 e.symm)⟩
      | exact fun e => h5.elim (fun e2 => hap p10 (e2.symm.trans e)) (fun e2 => by have h6 := blk_lt (hI.lit p10).2; have h7 := Option.some.inj (e2.symm.trans e); omega)
/-- append, third. -/
theorem chain_app_c (hF : Ev.Fit ops l a0) (hk : ops[18]? = some o) (hg : o.guard = none) (hr : Ev.readsOk ops o = true) (hsel : ∀ cs b, o.op ≠ .select cs b) (hv : ∀ γ, (l γ)[18]? = some (o.dst, γ.v3)) (hx : ∀ (γ : Cg) u j, j ≠ 18 → (l ⟨γ.v0, γ.v1, γ.v2, u, γ.lt⟩)[j]? = (l γ)[j]?)
    (s x : Operand) (t : TypeId) (ho : o.op = .call { callee := .builtin .append, args := #[s, x], argTypes := #[t, t] }) (z : Value) (bytes : Nat) (ht : P.underlying t = some (.slice 38)) (hinfo : (P.info? 38).map (fun i => (i.zero, i.size, i.bytes)) = some (some z, 5, bytes)) (hz : z.cells.size = 5)
    (A : Option Addr) (c : Nat) (hes : ∀ γ, (Ev.putAll (l γ) a0).eval s = γ.v2) (hex : ∀ γ, (Ev.putAll (l γ) a0).eval x = .slice A n3 c) (hl : (X3).length = n3 * 5) (h1 : ∀ u ∈ X3, u.oneCell' = true) (hs : ∀ w, Mod (fun k => k = m) W w → Src w A n3 X3) (h63 : (n1 + 1) + n3 ≤ maxLen) (hbytes : ((n1 + 1) + n3) * bytes ≤ 140737488355328) (hm : m < W.heap.size)
    (hd1 : ∀ S, Ev.Deps .any o S → S.getD 11 false = true) : Ev.Step P ops (Ev.Gh l a0 (Chain W m v n1 n3 X1 Xl X3)) Q' 18 o :=
  Ev.gh_step hF hk hg hr hsel fun γ S w h0 hd hI => by
    have hq := hI.open_ h0 (by decide)
    have p1 := hd1 S hd
    have p11 := p1
    have p8 := (hI.o2 p11).1
    have p10 := (hI.o2 p11).2
    have e1 := hI.o1 p8
    have q18 : S.getD 18 false = false := Ev.get_false h0
    have hc := hI.cell
    have hrow := hI.row e1
    have hap := hI.apart e1
    simp only [curV, curN, curX, p8, p11, q18, hq, Bool.false_eq_true, if_false, if_true] at hc hrow hap
    obtain ⟨v', w', hrn, h2, h3, h5⟩ := run_append_src (P := P) (w := w) W.heap.size t o.type 38 z 5 bytes ht hinfo hz (by decide) _ _ _ hrow A n3 c X3 hl (hs w hI.mod) h1 h63 hbytes hI.mod.size
    rw [run_append_op s x t ho (hes γ) (hex γ) hrn]
    have hge := own_base hrow
    refine ⟨⟨γ.v0, γ.v1, γ.v2, v', γ.lt⟩, hv _, hx γ _, hI.mod.trans h3 (fun q hq => .inr (hge q hq.symm)), ?_, ?_, ?_, ?_, ?_, ?_, ?_, ?_⟩ <;> simp only [curV, curN, curX, Ev.set_same h0, Ev.set_other (show (18 : Nat) ≠ 1 by decide), Ev.set_other (show (18 : Nat) ≠ 8 by decide), Ev.set_other (show (18 : Nat) ≠ 10 by decide), Ev.set_other (show (18 : Nat) ≠ 11 by decide), Ev.set_other (show (18 : Nat) ≠ 21 by decide), p8, p11, p10, e1, hq, Bool.false_eq_true, if_false, if_true, false_implies, true_implies, implies_true] at hc ⊢
    all_goals first
      | exact h3.blk hc (fun e => by have := hge _ e.symm; omega)
      | exact h2
      | exact ⟨trivial, trivial⟩
      | exact ⟨(hI.lit p10).1, h3.blk (hI.lit p10).2 (fun e => hap p10 e.symm)⟩
      | exact fun e => h5.elim (fun e2 => hap p10 (e2.symm.trans e)) (fun e2 => by have h6 := blk_lt (hI.lit p10).2; have h7 := Option.some.inj (e2.symm.trans e); omega)

end
end Go.Proofs.YtepklobkppdliaaDoor.Rm

/- Regions that draw their order: the class of worlds in which two blocks are written whole; results that lie in cells. No Go in it. -/
import Derived.Test.YtepklobkppdliaaDoorVLib
import Derived.Test.YtepklobkppdliaaDoorVEv
namespace Go.Proofs.YtepklobkppdliaaDoor.Ev
open Go.RowKit Go.Proofs.YtepklobkppdliaaDoorW.PrintWords Go.Proofs.YtepklobkppdliaaDoorW.PrintLast Go.Proofs.YtepklobkppdliaaDoor.Lib
section
variable {P : Program} {ops : Array Oper} {md : Region.Mode} {C : Array Bool → World → Prop} {Q : Act → Prop} {o : Oper} {a : Act} {rest : List Oper} {k : Nat}
theorem ev_step {v : Value} {t : Option Tmp} (hg : o.guard = none) (ht : o.dst = t) (hd : Does P md C k o a v) (h : wpEv P md ops C Q (k + 1) rest (a.put t v)) : wpEv P md ops C Q k (o :: rest) a := by
  subst ht
  unfold wpEv
  rw [if_pos (by unfold Region.wanted; rw [hg])]
  exact ⟨v, hd, h⟩
theorem ev_nil (h : Q a) : wpEv P md ops C Q k [] a := h
theorem set_other {S : Array Bool} {i j : Nat} (h : i ≠ j) : (S.setIfInBounds i true).getD j false = S.getD j false := getD_set_ne false h
/-- An operation that only computes. -/
theorem does_pure {i : Nat} {v : Value} (hi : Idle C i) (h : ∀ w, (execOp a.eval o).run P w = .ok (.value v) w) : Does P md C i o a v := fun S w h0 _ hC => by
  rw [h w]
  exact ⟨rfl, hi S w h0 hC⟩
theorem run_store_whole {w : World} (ty : TypeId) (x y : Operand) (ho : o.op = .store ty x y) (g : Nat) (cells : Array Value) (hx : a.eval x = .pointer (some ⟨g, 0, none⟩)) (hy : a.eval y = .agg cells)
    (t : TypeId) (old : Array Value) (hg : w.heap[g]? = some (.cells old t (0, 0))) (hi : (P.info? ty).map (·.size) = some cells.size) (hold : old.size = cells.size) (h1 : cells.all (·.oneCell') = true) :
    (execOp a.eval o).run P w = .ok .skip (w.setRow g cells) := by
  unfold execOp
  simp only [ho, hx, hy, Instr.storeAt, Instr.sureAddr, Sem.run_bind, Sem.run_pure, Result.andThen_ok, run_storeVar_row w g t ty old cells hg hi hold h1]
theorem run_load_whole {w : World} (ty : TypeId) (x : Operand) (ho : o.op = .load ty x) (g : Nat) (hx : a.eval x = .pointer (some ⟨g, 0, none⟩)) (t : TypeId) (cs : Array Value) (d : TypeDesc) (hg : w.heap[g]? = some (.cells cs t (0, 0)))
    (hu : P.underlying ty = some d) (hd : (match d with | .struct _ | .array _ _ => true | _ => false) = true) (hi : (P.info? ty).map (·.size) = some cs.size) :
    (execOp a.eval o).run P w = .ok (.value (.agg cs)) w := by
  unfold execOp
  simp only [ho, hx, Instr.loadAt, Instr.sureAddr, Sem.run_bind, Sem.run_pure, Result.andThen_ok, run_loadVar_row w g t ty cs (0, 0) d hg hu hd hi]
theorem row_mod {W : World} (g : Nat) (old cells : Array Value) (t : TypeId) (hg : W.heap[g]? = some (.cells old t (0, 0))) : (W.setRow g cells).heap[g]? = some (.cells cells t (0, 0)) ∧ Mod (fun k => k = g) W (W.setRow g cells) :=
  ⟨setRow_heap W g old cells t (0, 0) hg, ⟨rfl, rfl, rfl, by simp [World.setRow], fun k _ hk => setRow_other W g k cells hk⟩⟩
/-- Two blocks are written whole, each by one operation; all else that was there stays. -/
structure Two (W : World) (g1 g2 : Nat) (t1 t2 : TypeId) (c1 A c2 X : Array Value) (i1 i2 : Nat) (S : Array Bool) (w : World) : Prop where
  mod : Mod (fun k => k = g1 ∨ k = g2) W w
  b1 : ∃ cs, w.heap[g1]? = some (.cells cs t1 (0, 0)) ∧ (cs = c1 ∨ cs = A) ∧ (S.getD i1 false = true → cs = A)
  b2 : ∃ cs, w.heap[g2]? = some (.cells cs t2 (0, 0)) ∧ (cs = c2 ∨ cs = X) ∧ (S.getD i2 false = true → cs = X)
variable {W : World} {g1 g2 : Nat} {t1 t2 : TypeId} {c1 A c2 X : Array Value} {i1 i2 : Nat}
theorem two_start {n : Nat} (h1 : W.heap[g1]? = some (.cells c1 t1 (0, 0))) (h2 : W.heap[g2]? = some (.cells c2 t2 (0, 0))) : Two W g1 g2 t1 t2 c1 A c2 X i1 i2 (Array.replicate n false) W.drew := by
  have hn : ∀ i : Nat, ¬ (Array.replicate n false).getD i false = true := fun i h => by
    rw [Array.getD_eq_getD_getElem?, Array.getElem?_replicate] at h
    split at h <;> cases h
  exact ⟨(Mod.refl _ _).drew, ⟨c1, h1, .inl rfl, fun h => absurd h (hn i1)⟩, ⟨c2, h2, .inl rfl, fun h => absurd h (hn i2)⟩⟩
theorem two_end {n : Nat} {w : World} (h : Two W g1 g2 t1 t2 c1 A c2 X i1 i2 (Array.replicate n true) w) (h1 : i1 < n) (h2 : i2 < n) :
    Mod (fun k => k = g1 ∨ k = g2) W w ∧ w.heap[g1]? = some (.cells A t1 (0, 0)) ∧ w.heap[g2]? = some (.cells X t2 (0, 0)) := by
  have hn : ∀ i : Nat, i < n → (Array.replicate n true).getD i false = true := fun i hi => by
    rw [Array.getD_eq_getD_getElem?, Array.getElem?_replicate, if_pos hi]
    rfl
  obtain ⟨x, hx, _, hx2⟩ := h.b1
  obtain ⟨y, hy, _, hy2⟩ := h.b2
  obtain rfl := hx2 (hn _ h1)
  obtain rfl := hy2 (hn _ h2)
  exact ⟨h.mod, hx, hy⟩
theorem two_idle {i : Nat} (h1 : i ≠ i1) (h2 : i ≠ i2) : Idle (Two W g1 g2 t1 t2 c1 A c2 X i1 i2) i := fun S w _ h =>
  ⟨h.mod, by rw [set_other h1]; exact h.b1, by rw [set_other h2]; exact h.b2⟩
theorem two_pure {i : Nat} {v : Value} (h1 : i ≠ i1) (h2 : i ≠ i2) (h : ∀ w, (execOp a.eval o).run P w = .ok (.value v) w) : Does P md (Two W g1 g2 t1 t2 c1 A c2 X i1 i2) i o a v := does_pure (two_idle h1 h2) h
/-- A block is read that is none of the two. -/
theorem two_load {i : Nat} (h1 : i ≠ i1) (h2 : i ≠ i2) (ty : TypeId) (x : Operand) (ho : o.op = .load ty x) (g : Nat) (hx : a.eval x = .pointer (some ⟨g, 0, none⟩)) (t : TypeId) (cs : Array Value) (d : TypeDesc) (hg : W.heap[g]? = some (.cells cs t (0, 0)))
    (hn1 : g ≠ g1) (hn2 : g ≠ g2) (hu : P.underlying ty = some d) (hd : (match d with | .struct _ | .array _ _ => true | _ => false) = true) (hi : (P.info? ty).map (·.size) = some cs.size) : Does P md (Two W g1 g2 t1 t2 c1 A c2 X i1 i2) i o a (.agg cs) := fun S w h0 _ hC => by
  rw [run_load_whole ty x ho g hx t cs d (hC.mod.blk hg (fun e => e.elim hn1 hn2)) hu hd hi]
  exact ⟨rfl, two_idle h1 h2 S w h0 hC⟩
/-- The first block is read: what is stored into it is what it holds. -/
theorem two_load1 {i : Nat} (h1 : i ≠ i1) (h2 : i ≠ i2) (ty : TypeId) (x : Operand) (ho : o.op = .load ty x) (hx : a.eval x = .pointer (some ⟨g1, 0, none⟩)) (d : TypeDesc) (hc : c1 = A)
    (hu : P.underlying ty = some d) (hd : (match d with | .struct _ | .array _ _ => true | _ => false) = true) (hi : (P.info? ty).map (·.size) = some A.size) : Does P md (Two W g1 g2 t1 t2 c1 A c2 X i1 i2) i o a (.agg A) := fun S w h0 _ hC => by
  obtain ⟨cs, hb, he, _⟩ := hC.b1
  obtain rfl : cs = A := by rcases he with rfl | rfl; exact hc; rfl
  rw [run_load_whole ty x ho g1 hx t1 cs d hb hu hd hi]
  exact ⟨rfl, two_idle h1 h2 S w h0 hC⟩
theorem two_load2 {i : Nat} (h1 : i ≠ i1) (h2 : i ≠ i2) (ty : TypeId) (x : Operand) (ho : o.op = .load ty x) (hx : a.eval x = .pointer (some ⟨g2, 0, none⟩)) (d : TypeDesc) (hc : c2 = X)
    (hu : P.underlying ty = some d) (hd : (match d with | .struct _ | .array _ _ => true | _ => false) = true) (hi : (P.info? ty).map (·.size) = some X.size) : Does P md (Two W g1 g2 t1 t2 c1 A c2 X i1 i2) i o a (.agg X) := fun S w h0 _ hC => by
  obtain ⟨cs, hb, he, _⟩ := hC.b2
  obtain rfl : cs = X := by rcases he with rfl | rfl; exact hc; rfl
  rw [run_load_whole ty x ho g2 hx t2 cs d hb hu hd hi]
  exact ⟨rfl, two_idle h1 h2 S w h0 hC⟩
/-- A call that makes memory and changes none. -/
theorem two_call {i : Nat} {v : Value} (h1 : i ≠ i1) (h2 : i ≠ i2) (f : FuncId) (args : Array Value) (hrun : ∀ w, (execOp a.eval o).run P w = .ok (.enter f args) w) (hc : ∀ w, Calls P f args w (fun e w' => e = .returned v ∧ Below w.heap.size w w')) :
    Does P md (Two W g1 g2 t1 t2 c1 A c2 X i1 i2) i o a v := fun S w _ _ hC => by
  rw [hrun w]
  refine (hc w).mono fun e w' ⟨he, hb⟩ => ⟨he, hC.mod.then_below hb, ?_, ?_⟩
  · obtain ⟨cs, h3, h4, h5⟩ := hC.b1
    exact ⟨cs, (hb.block _ (blk_lt h3)).trans h3, h4, by rw [set_other h1]; exact h5⟩
  · obtain ⟨cs, h3, h4, h5⟩ := hC.b2
    exact ⟨cs, (hb.block _ (blk_lt h3)).trans h3, h4, by rw [set_other h2]; exact h5⟩
theorem two_store1 (h2 : i1 ≠ i2) (hne : g1 ≠ g2) (ty : TypeId) (x y : Operand) (ho : o.op = .store ty x y) (hx : a.eval x = .pointer (some ⟨g1, 0, none⟩)) (hy : a.eval y = .agg A) (hs : c1.size = A.size)
    (hi : (P.info? ty).map (·.size) = some A.size) (h1 : A.all (·.oneCell') = true) : Does P md (Two W g1 g2 t1 t2 c1 A c2 X i1 i2) i1 o a undef := fun S w _ _ hC => by
  obtain ⟨cs, hb, he, _⟩ := hC.b1
  obtain ⟨cs2, hb2, he2, hS2⟩ := hC.b2
  have hsz : cs.size = A.size := by rcases he with rfl | rfl; exact hs; rfl
  rw [run_store_whole ty x y ho g1 A hx hy t1 cs hb hi hsz h1]
  obtain ⟨r1, r2⟩ := row_mod g1 cs A t1 hb
  exact ⟨rfl, hC.mod.trans r2 (fun k hk => .inl (.inl hk)), ⟨A, r1, .inr rfl, fun _ => rfl⟩, ⟨cs2, r2.blk hb2 (fun e => hne e.symm), he2, by rw [set_other h2]; exact hS2⟩⟩
theorem two_store2 (h2 : i2 ≠ i1) (hne : g1 ≠ g2) (ty : TypeId) (x y : Operand) (ho : o.op = .store ty x y) (hx : a.eval x = .pointer (some ⟨g2, 0, none⟩)) (hy : a.eval y = .agg X) (hs : c2.size = X.size)
    (hi : (P.info? ty).map (·.size) = some X.size) (h1 : X.all (·.oneCell') = true) : Does P md (Two W g1 g2 t1 t2 c1 A c2 X i1 i2) i2 o a undef := fun S w _ _ hC => by
  obtain ⟨cs, hb, he, _⟩ := hC.b2
  obtain ⟨cs1, hb1, he1, hS1⟩ := hC.b1
  have hsz : cs.size = X.size := by rcases he with rfl | rfl; exact hs; rfl
  rw [run_store_whole ty x y ho g2 X hx hy t2 cs hb hi hsz h1]
  obtain ⟨r1, r2⟩ := row_mod g2 cs X t2 hb
  exact ⟨rfl, hC.mod.trans r2 (fun k hk => .inl (.inr hk)), ⟨cs1, r2.blk hb1 (fun e => hne e), he1, by rw [set_other h2]; exact hS1⟩, ⟨X, r1, .inr rfl, fun _ => rfl⟩⟩
/-- One block is made and written whole; all that was there stays. -/
structure One (W : World) (t : TypeId) (n : Nat) (X : Array Value) (ia ib : Nat) (S : Array Bool) (w : World) : Prop where
  ord : S.getD ib false = true → S.getD ia false = true
  mod : Mod (fun k => k = W.heap.size) W w
  none_ : S.getD ia false = false → w.heap.size = W.heap.size
  some_ : S.getD ia false = true → ∃ cs, w.heap[W.heap.size]? = some (.cells cs t (0, 0)) ∧ cs.size = n ∧ (S.getD ib false = true → cs = X)
variable {t : TypeId} {n ia ib : Nat}
theorem one_start {m : Nat} : One W t n X ia ib (Array.replicate m false) W.drew := by
  have hn : ∀ i : Nat, ¬ (Array.replicate m false).getD i false = true := fun i h => by
    rw [Array.getD_eq_getD_getElem?, Array.getElem?_replicate] at h
    split at h <;> cases h
  exact ⟨fun h => absurd h (hn ib), (Mod.refl _ _).drew, fun _ => rfl, fun h => absurd h (hn ia)⟩
theorem one_end {m : Nat} {w : World} (h : One W t n X ia ib (Array.replicate m true) w) (h1 : ia < m) (h2 : ib < m) : Below W.heap.size W w ∧ w.heap[W.heap.size]? = some (.cells X t (0, 0)) := by
  have hn : ∀ i : Nat, i < m → (Array.replicate m true).getD i false = true := fun i hi => by
    rw [Array.getD_eq_getD_getElem?, Array.getElem?_replicate, if_pos hi]
    rfl
  obtain ⟨x, hx, _, hx2⟩ := h.some_ (hn _ h1)
  obtain rfl := hx2 (hn _ h2)
  exact ⟨h.mod.below_all (fun k hk => Nat.le_of_eq hk.symm), hx⟩
theorem one_idle {i : Nat} (h1 : i ≠ ia) (h2 : i ≠ ib) : Idle (One W t n X ia ib) i := fun S w _ h =>
  ⟨by rw [set_other h1, set_other h2]; exact h.ord, h.mod, by rw [set_other h1]; exact h.none_, by rw [set_other h1, set_other h2]; exact h.some_⟩
theorem one_pure {i : Nat} {v : Value} (h1 : i ≠ ia) (h2 : i ≠ ib) (h : ∀ w, (execOp a.eval o).run P w = .ok (.value v) w) : Does P md (One W t n X ia ib) i o a v := does_pure (one_idle h1 h2) h
/-- A cell that was there is read. -/
theorem one_load {i : Nat} {v : Value} (h1 : i ≠ ia) (h2 : i ≠ ib) (p : Addr) (hc : W.cell? p = some v) (hp : p.block < W.heap.size) (h : ∀ w : World, w.cell? p = some v → (execOp a.eval o).run P w = .ok (.value v) w) :
    Does P md (One W t n X ia ib) i o a v := fun S w h0 _ hC => by
  have hb := hC.mod.block p.block hp (fun e => by omega)
  rw [h w (by rw [← hc]; unfold World.cell?; rw [hb])]
  exact ⟨rfl, one_idle h1 h2 S w h0 hC⟩
/-- A call that leaves the world alone. -/
theorem one_call {i : Nat} {v : Value} (h1 : i ≠ ia) (h2 : i ≠ ib) (f : FuncId) (args : Array Value) (hrun : ∀ w, (execOp a.eval o).run P w = .ok (.enter f args) w) (hc : ∀ w, Calls P f args w (fun e w' => e = .returned v ∧ w = w')) :
    Does P md (One W t n X ia ib) i o a v := fun S w h0 _ hC => by
  rw [hrun w]
  refine (hc w).mono fun e w' ⟨he, hw⟩ => ⟨he, ?_⟩
  subst hw
  exact one_idle h1 h2 S w h0 hC
theorem set_same {S : Array Bool} {i : Nat} (h : S.getD i true = false) : (S.setIfInBounds i true).getD i false = true := by
  have hi : i < S.size := by
    rcases Nat.lt_or_ge i S.size with h' | h'
    · exact h'
    · rw [Array.getD_eq_getD_getElem?, Array.getElem?_eq_none h'] at h
      cases h
  rw [Array.getD_eq_getD_getElem?, Array.getElem?_setIfInBounds_self, if_pos hi]
  rfl
theorem get_false {S : Array Bool} {i : Nat} (h : S.getD i true = false) : S.getD i false = false := by
  rw [Array.getD_eq_getD_getElem?] at h ⊢
  cases hg : S[i]? with
  | none => rfl
  | some b => rw [hg] at h; exact h
theorem one_alloc {z : Array Value} (h2 : ia ≠ ib) (hz : z.size = n) (hrun : ∀ w, (execOp a.eval o).run P w = .ok (.value (.pointer (some ⟨w.heap.size, 0, none⟩))) (w.alloc (.cells z t))) :
    Does P md (One W t n X ia ib) ia o a (.pointer (some ⟨W.heap.size, 0, none⟩)) := fun S w h0 _ hC => by
  have hs := hC.none_ (get_false h0)
  have hb : S.getD ib false = false := by
    cases h : S.getD ib false
    · rfl
    · have := hC.ord h
      rw [get_false h0] at this
      cases this
  rw [hrun w]
  refine ⟨by rw [hs], ⟨?_, hC.mod.alloc _, ?_, ?_⟩⟩
  · intro _
    exact set_same h0
  · intro h
    rw [set_same h0] at h
    cases h
  · intro _
    refine ⟨z, by rw [← hs]; exact blk_new w _, hz, fun h => ?_⟩
    rw [set_other h2, hb] at h
    cases h
theorem one_store (h2 : ib ≠ ia) (ty : TypeId) (x y : Operand) (ho : o.op = .store ty x y) (hx : a.eval x = .pointer (some ⟨W.heap.size, 0, none⟩)) (hy : a.eval y = .agg X) (hn : X.size = n) (hi : (P.info? ty).map (·.size) = some X.size) (h1 : X.all (·.oneCell') = true)
    (hd : ∀ S, Deps md o S → S.getD ia false = true) : Does P md (One W t n X ia ib) ib o a undef := fun S w _ hdp hC => by
  obtain ⟨cs, hb, hs, _⟩ := hC.some_ (hd S hdp)
  rw [run_store_whole ty x y ho W.heap.size X hx hy t cs hb hi (hs.trans hn.symm) h1]
  obtain ⟨r1, r2⟩ := row_mod W.heap.size cs X t hb
  refine ⟨rfl, ⟨?_, hC.mod.trans r2 (fun k hk => .inl hk), ?_, ?_⟩⟩
  · intro _
    rw [set_other h2]
    exact hd S hdp
  · rw [set_other h2]
    intro h
    rw [hd S hdp] at h
    cases h
  · intro _
    exact ⟨X, r1, hn, fun _ => rfl⟩
end
section
variable {P : Program} {fn : Func} {p q : Tmp} {ty tq : TypeId} {tmps : Array Value} {w : World} {g g' : Nat} {t t' : TypeId} {cs cs' : Array Value} {d d' : TypeDesc}
theorem results_c1 {r : Tmp} (h : fn.results = #[.cell p ty, .tmp r]) (hp : tmps.getD p undef = .pointer (some ⟨g, 0, none⟩)) (hg : w.heap[g]? = some (.cells cs t (0, 0)))
    (hu : P.underlying ty = some d) (hd : (match d with | .struct _ | .array _ _ => true | _ => false) = true) (hi : (P.info? ty).map (·.size) = some cs.size) {v : Value} (hv : tmps.getD r undef = v) :
    (results fn tmps).run P w = .ok (.tuple #[.agg cs, v]) w := by
  have hp' : tmps[p]?.getD undef = .pointer (some ⟨g, 0, none⟩) := by simpa using hp
  have hv' : tmps[r]?.getD undef = v := by simpa using hv
  simp [results, h, hp', hv', asAddr, run_loadVar_row w g t ty cs (0, 0) d hg hu hd hi]
theorem results_c2 {r : Tmp} (h : fn.results = #[.cell p ty, .cell q tq, .tmp r]) (hp : tmps.getD p undef = .pointer (some ⟨g, 0, none⟩)) (hg : w.heap[g]? = some (.cells cs t (0, 0)))
    (hu : P.underlying ty = some d) (hd : (match d with | .struct _ | .array _ _ => true | _ => false) = true) (hi : (P.info? ty).map (·.size) = some cs.size)
    (hq : tmps.getD q undef = .pointer (some ⟨g', 0, none⟩)) (hg' : w.heap[g']? = some (.cells cs' t' (0, 0)))
    (hu' : P.underlying tq = some d') (hd' : (match d' with | .struct _ | .array _ _ => true | _ => false) = true) (hi' : (P.info? tq).map (·.size) = some cs'.size) {v : Value} (hv : tmps.getD r undef = v) :
    (results fn tmps).run P w = .ok (.tuple #[.agg cs, .agg cs', v]) w := by
  have hp' : tmps[p]?.getD undef = .pointer (some ⟨g, 0, none⟩) := by simpa using hp
  have hq' : tmps[q]?.getD undef = .pointer (some ⟨g', 0, none⟩) := by simpa using hq
  have hv' : tmps[r]?.getD undef = v := by simpa using hv
  simp [results, h, hp', hq', hv', asAddr, run_loadVar_row w g t ty cs (0, 0) d hg hu hd hi, run_loadVar_row w g' t' tq cs' (0, 0) d' hg' hu' hd' hi']
theorem results_c3 {r s : Tmp} (h : fn.results = #[.cell p ty, .cell q tq, .tmp r, .tmp s]) (hp : tmps.getD p undef = .pointer (some ⟨g, 0, none⟩)) (hg : w.heap[g]? = some (.cells cs t (0, 0)))
    (hu : P.underlying ty = some d) (hd : (match d with | .struct _ | .array _ _ => true | _ => false) = true) (hi : (P.info? ty).map (·.size) = some cs.size)
    (hq : tmps.getD q undef = .pointer (some ⟨g', 0, none⟩)) (hg' : w.heap[g']? = some (.cells cs' t' (0, 0)))
    (hu' : P.underlying tq = some d') (hd' : (match d' with | .struct _ | .array _ _ => true | _ => false) = true) (hi' : (P.info? tq).map (·.size) = some cs'.size) {v u : Value} (hv : tmps.getD r undef = v) (hs : tmps.getD s undef = u) :
    (results fn tmps).run P w = .ok (.tuple #[.agg cs, .agg cs', v, u]) w := by
  have hp' : tmps[p]?.getD undef = .pointer (some ⟨g, 0, none⟩) := by simpa using hp
  have hq' : tmps[q]?.getD undef = .pointer (some ⟨g', 0, none⟩) := by simpa using hq
  have hv' : tmps[r]?.getD undef = v := by simpa using hv
  have hs' : tmps[s]?.getD undef = u := by simpa using hs
  simp [results, h, hp', hq', hv', hs', asAddr, run_loadVar_row w g t ty cs (0, 0) d hg hu hd hi, run_loadVar_row w g' t' tq cs' (0, 0) d' hg' hu' hd' hi']
end
end Go.Proofs.YtepklobkppdliaaDoor.Ev

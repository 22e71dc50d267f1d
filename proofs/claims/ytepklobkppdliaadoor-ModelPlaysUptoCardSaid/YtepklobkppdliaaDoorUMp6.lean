/- The model: regions in which both models are called, in any order. -/
import Derived.Test.YtepklobkppdliaaDoorUMp3
import Derived.Test.YtepklobkppdliaaDoorUMp5
import Derived.Test.YtepklobkppdliaaDoorUEv3
namespace Go.Proofs.YtepklobkppdliaaDoor.Mp
open Go.RowKit Go.Proofs.YtepklobkppdliaaDoorW.PrintWords Go.Proofs.YtepklobkppdliaaDoorW.PrintLast Go.Proofs.YtepklobkppdliaaDoorW.PrintMore Go.Proofs.YtepklobkppdliaaDoor.Lib Go.Proofs.YtepklobkppdliaaDoor.Open Go.Proofs.YtepklobkppdliaaDoor.Md
open Go.Proofs.YtepklobkppdliaaDoor.Rm (Rm)
open Ev (puts putAll Fit Step Gh Deps readsOk GhUpon)
section
variable {P : Program} {ops : Array Oper} {Γ : Type} {l : Γ → List (Option Tmp × Value)} {a0 : Act} {I : Γ → Array Bool → World → Prop} {Q' : Exit → Act → World → Prop} {o : Oper} {k : Nat}
theorem gh_stepW (hF : Fit ops l a0) (hk : ops[k]? = some o) (hw : ∀ γ S, Deps .any o S → Region.wanted o (yielded ops (puts 0 (l γ) S a0).tmps) = true) (hr : readsOk ops o = true) (hsel : ∀ cs b, o.op ≠ .select cs b)
    (h : ∀ γ S w, S.getD k true = false → Deps .any o S → I γ S w → GhUpon P (fun v w' => ∃ γ', (l γ')[k]? = some (o.dst, v) ∧ (∀ j, j ≠ k → (l γ')[j]? = (l γ)[j]?) ∧ I γ' (S.setIfInBounds k true) w') ((execOp (putAll (l γ) a0).eval o).run P w)) :
    Step P ops (Gh l a0 I) Q' k o := by
  intro S a w hz h0 hd hC
  obtain ⟨γ, e, hI⟩ := hC
  subst e
  rw [if_pos (hw γ S hd)]
  have h1 := h γ S w h0 hd hI
  rw [← execOp_congr o hsel (fun x hx => hF.eval γ hr hd x hx)] at h1
  have key : ∀ v w', (∃ γ', (l γ')[k]? = some (o.dst, v) ∧ (∀ j, j ≠ k → (l γ')[j]? = (l γ)[j]?) ∧ I γ' (S.setIfInBounds k true) w') → Gh l a0 I (S.setIfInBounds k true) ((puts 0 (l γ) S a0).put o.dst v) w' := by
    intro v w' ⟨γ', h2, h3, h4⟩
    have hlen : (l γ).length = (l γ').length := by
      have e1 := congrArg List.length (hF.dst γ)
      have e2 := congrArg List.length (hF.dst γ')
      simp only [List.length_map] at e1 e2
      omega
    refine ⟨γ', ?_, h4⟩
    have hs := Ev.puts_set (l γ') 0 k S a0 o.dst v (by rwa [Nat.zero_add]) h2 (hF.off γ' hk)
    rw [Nat.zero_add] at hs
    rw [hs, Ev.puts_congr (l γ) (l γ') 0 k S a0 (by rw [Nat.zero_add]; exact Ev.get_false h0) hlen (fun j hj => (h3 j hj).symm)]
  unfold Oper.wp
  generalize (execOp (puts 0 (l γ) S a0).eval o).run P w = r at h1 ⊢
  cases r with
  | ok n w' =>
    cases n <;> simp only [GhUpon] at h1 <;> simp only [Oper.upon]
    case value u => exact key _ _ h1
    case skip => exact key _ _ h1
    case enter f args =>
      refine h1.mono fun e w'' ⟨v, he, hD⟩ => ?_
      subst he
      exact key _ _ hD
  | halt x w' => simp only [GhUpon] at h1
/-- A guarded operation whose guard says yes. -/
theorem wanted_of (hF : Fit ops l a0) {i : Nat} {b : Bool} {oi : Oper} {u : Tmp} (hg : o.guard = some (i, b)) (hi : ops[i]? = some oi) (hu : oi.dst = some u) (hv : ∀ γ, (l γ)[i]? = some (some u, .bool b)) (hdep : ∀ S, Deps .any o S → S.getD i false = true) :
    ∀ γ S, Deps .any o S → Region.wanted o (yielded ops (puts 0 (l γ) S a0).tmps) = true := fun γ S hd => by
  have hoff := hF.off γ hi
  rw [hu] at hoff
  have hlt : u < a0.tmps.size := of_decide_eq_true (List.all_eq_true.1 hF.lt u (List.mem_filterMap.2 ⟨oi, Array.mem_toList_iff.2 (Array.mem_of_getElem? hi), hu⟩))
  have hd2 := Ev.puts_done (l γ) 0 i S a0 u (.bool b) (by rw [Nat.zero_add]; exact hdep S hd) (hv γ) hoff hlt
  have hsz := Ev.puts_size (l γ) 0 S a0
  have hg2 : (puts 0 (l γ) S a0).tmps[u]? = some (.bool b) := by
    rw [Array.getD_eq_getD_getElem?] at hd2
    cases h : (puts 0 (l γ) S a0).tmps[u]? with
    | none =>
      rw [Array.getElem?_eq_none_iff, hsz] at h
      exact absurd hlt (Nat.not_lt.2 h)
    | some x => rw [h] at hd2; exact congrArg some hd2
  unfold Region.wanted
  rw [hg]
  show (yielded ops (puts 0 (l γ) S a0).tmps i == some b) = true
  unfold yielded
  rw [hi]
  show ((match (oi.dst).bind ((puts 0 (l γ) S a0).tmps[·]?) with | some (.bool b) => some b | _ => none) == some b) = true
  rw [hu]
  show ((match (puts 0 (l γ) S a0).tmps[u]? with | some (.bool b) => some b | _ => none) == some b) = true
  rw [hg2]
  simp
/-- A call, with what is done so far. -/
theorem gh_callS (hF : Fit ops l a0) (hk : ops[k]? = some o) (hw : ∀ γ S, Deps .any o S → Region.wanted o (yielded ops (puts 0 (l γ) S a0).tmps) = true) (hr : readsOk ops o = true) (hsel : ∀ cs b, o.op ≠ .select cs b) (f : FuncId) (args : Γ → Array Value)
    (hrun : ∀ γ w, (execOp (putAll (l γ) a0).eval o).run P w = .ok (.enter f (args γ)) w)
    (hc : ∀ γ S w, S.getD k true = false → Deps .any o S → I γ S w → Calls P f (args γ) w (fun e w' => ∃ v γ', e = .returned v ∧ (l γ')[k]? = some (o.dst, v) ∧ (∀ j, j ≠ k → (l γ')[j]? = (l γ)[j]?) ∧ I γ' (S.setIfInBounds k true) w')) : Step P ops (Gh l a0 I) Q' k o :=
  gh_stepW hF hk hw hr hsel fun γ S w h0 hd hi => by
    rw [hrun γ w]
    exact (hc γ S w h0 hd hi).mono fun e w' ⟨v, γ', he, h1, h2, h3⟩ => ⟨v, he, γ', h1, h2, h3⟩
theorem want_all (hg : o.guard = none) : ∀ γ S, Deps .any o S → Region.wanted o (yielded ops (puts 0 (l γ) S a0).tmps) = true := fun γ S _ => by unfold Region.wanted; rw [hg]
/-- A guarded operation that computes or reads. -/
theorem gh_valG (hF : Fit ops l a0) (hk : ops[k]? = some o) (hw : ∀ γ S, Deps .any o S → Region.wanted o (yielded ops (puts 0 (l γ) S a0).tmps) = true) (hr : readsOk ops o = true) (hsel : ∀ cs b, o.op ≠ .select cs b) (v : Γ → Value) (hv : ∀ γ, (l γ)[k]? = some (o.dst, v γ)) (hI : ∀ γ S w, I γ S w → I γ (S.setIfInBounds k true) w)
    (hrun : ∀ γ S w, I γ S w → (execOp (putAll (l γ) a0).eval o).run P w = .ok (.value (v γ)) w) : Step P ops (Gh l a0 I) Q' k o :=
  gh_stepW hF hk hw hr hsel fun γ S w _ _ hi => by
    rw [hrun γ S w hi]
    exact ⟨γ, hv γ, fun _ _ => rfl, hI γ S w hi⟩
end
theorem run_part {P : Program} {o : Oper} {a : Act} {w : World} (ty : TypeId) (x : Operand) (ho : o.op = .load ty x) (b off : Nat) (hx : a.eval x = .pointer (some ⟨b, off, none⟩)) (cs : List Value) (d : TypeDesc) (hc : w.rangeAt b off cs)
    (hu : P.underlying ty = some d) (hd : d.isRow = true) (hi : (P.info? ty).map (·.size) = some cs.length) : (execOp a.eval o).run P w = .ok (.value (.agg cs.toArray)) w := by
  unfold execOp
  simp only [ho, hx, Instr.loadAt, Instr.sureAddr, Sem.run_bind, Sem.run_pure, Result.andThen_ok, run_loadVar_mid w b off ty cs d hc hu hd hi]
theorem range_part {w : World} {b off : Nat} {t : TypeId} {cs : Array Value} {l : List Value} (hb : w.heap[b]? = some (.cells cs t (0, 0))) (h : ∀ j u, l[j]? = some u → cs[off + j]? = some u) : w.rangeAt b off l := fun j u hu => by
  rw [blk_cell hb]
  exact h j u hu
/-- Forget of both, in any order. -/
structure F12 (W : World) (g b n B m : Nat) (v : Value) (f : ByteArray → Option Ent) (L : List Ent) (k : ByteArray) (γ : Value) (S : Array Bool) (w : World) : Prop where
  mod : Mod (fun q => q = b ∨ q = m) W w
  md0 : S.getD 3 false = false → Md w g b n f
  md1 : S.getD 3 false = true → Md w g b n (upd f k none)
  rm0 : S.getD 7 false = false → Rm w B m v L
  rm1 : S.getD 7 false = true → Rm w B m γ (Rm.forgetL k L)
section
variable {W w : World} {g b n B m : Nat} {v γ : Value} {f : ByteArray → Option Ent} {L : List Ent} {k : ByteArray} {S : Array Bool}
theorem F12.idle (h : F12 W g b n B m v f L k γ S w) {i : Nat} (h3 : i ≠ 3) (h7 : i ≠ 7) : F12 W g b n B m v f L k γ (S.setIfInBounds i true) w :=
  ⟨h.mod, by rw [Ev.set_other h3]; exact h.md0, by rw [Ev.set_other h3]; exact h.md1, by rw [Ev.set_other h7]; exact h.rm0, by rw [Ev.set_other h7]; exact h.rm1⟩
theorem rm_far {u : Value} {M : List Ent} {w' : World} (h : Rm w B m u M) (hm : Mod (fun q => q = b) w w') {ff : ByteArray → Option Ent} {nn : Nat} (hb : Mp w b nn ff) : Rm w' B m u M :=
  h.mod hm (fun e => hb.ne h.blk e.symm) (fun q hq e => by obtain ⟨cs, hc⟩ := own_typed h.row q hq; exact hb.ne hc e.symm)
theorem md_far {nn : Nat} {ff : ByteArray → Option Ent} {w' : World} (h : Md w g b nn ff) (hm : Mod (fun q => q = m) w w') {u : Value} (hb : w.heap[m]? = some (.cells #[u] 75 (0, 0))) : Md w' g b nn ff :=
  h.mod hm (fun e => by have h2 := h.blk; rw [e, hb] at h2; injection h2 with h2; injection h2 with _ h2; exact absurd h2 (by decide)) (fun e => h.mp.ne hb e)
end
section
variable {W w : World} {g b n B m : Nat} {v γ : Value} {f : ByteArray → Option Ent} {L : List Ent} {k : ByteArray} {S : Array Bool}
theorem not_repl {n i : Nat} : ¬ (Array.replicate n false).getD i false = true := Ev.not_repl
theorem F12.start {N : Nat} (hm : Md W g b n f) (hr : Rm W B m v L) : F12 W g b n B m v f L k γ (Array.replicate N false) W.drew :=
  ⟨(Mod.refl _ _).drew, fun _ => hm.below (below_drew (Below.refl _ _)), fun h => absurd h not_repl, fun _ => hr.below (below_drew (Below.refl _ _)), fun h => absurd h not_repl⟩
theorem F12.map (h : F12 W g b n B m v f L k γ S w) (h3 : S.getD 3 true = false) (hk : k.size ≤ maxLen) :
    Calls Tryd.prog 23 #[.pointer (some ⟨g, 0, none⟩), .string k] w fun e w' => e = .returned (.bool (f k).isSome) ∧ F12 W g b n B m v f L k γ (S.setIfInBounds 3 true) w' := by
  have hmd := h.md0 (Ev.get_false h3)
  refine (mforget_calls g b n f k w hmd hk).mono fun e w' ⟨he, hm, hmod⟩ => ⟨he, h.mod.trans hmod (fun q hq => .inl (.inl hq)), fun hx => ?_, fun _ => hm, fun hx => ?_, fun hx => ?_⟩
  · rw [Ev.set_same h3] at hx; cases hx
  · rw [Ev.set_other (by decide)] at hx; exact rm_far (h.rm0 hx) hmod hmd.mp
  · rw [Ev.set_other (by decide)] at hx; exact rm_far (h.rm1 hx) hmod hmd.mp
theorem F12.row (h : F12 W g b n B m v f L k γ S w) (h7 : S.getD 7 true = false) (hL : L.length ≤ 1000000) (hR : Rel f L) :
    Calls Tryd.prog 31 #[.pointer (some ⟨m, 0, none⟩), .string k] w fun e w' => e = .returned (.bool (f k).isSome) ∧ ∃ γ', F12 W g b n B m v f L k γ' (S.setIfInBounds 7 true) w' := by
  have hrm := h.rm0 (Ev.get_false h7)
  refine (Rm.forget_calls B m v L k w hrm hL).mono fun e w' ⟨he, v', hr, hmod, _⟩ => ⟨by rw [he, hR.there k], v', h.mod.trans hmod (fun q hq => .inl (.inr hq)), fun hx => ?_, fun hx => ?_, fun hx => ?_, fun _ => hr⟩
  · rw [Ev.set_other (by decide)] at hx; exact md_far (h.md0 hx) hmod hrm.blk
  · rw [Ev.set_other (by decide)] at hx; exact md_far (h.md1 hx) hmod hrm.blk
  · rw [Ev.set_same h7] at hx; cases hx
end
/-- Where the answers of both came to lie, and what the models are then. -/
structure G14 where
  A1 : Option Addr
  c1 : Nat
  b1 : Nat
  A2 : Option Addr
  c2 : Nat
  v2 : Value
  L2 : List Ent
/-- Apply of both, in any order. -/
structure F14 (W : World) (g b n B m : Nat) (v : Value) (f : ByteArray → Option Ent) (L : List Ent) (o : Out) (f' : ByteArray → Option Ent) (γ : G14) (S : Array Bool) (w : World) : Prop where
  mod : Mod (fun q => q = g ∨ q = b ∨ q = m) W w
  p0 : S.getD 7 false = false → Md w g b n f
  p1 : S.getD 7 false = true → Md w g γ.b1 (n + 1) f' ∧ Told W.heap.size w γ.A1 o.L ∧ (γ.b1 = b ∨ W.heap.size ≤ γ.b1)
  r0 : S.getD 15 false = false → Rm w B m v L
  r1 : S.getD 15 false = true → Rm w B m γ.v2 γ.L2 ∧ Rel f' γ.L2 ∧ γ.L2.length ≤ L.length + 1 ∧ Told W.heap.size w γ.A2 o.L
section
variable {W w : World} {g b n B m : Nat} {v : Value} {γ : G14} {f f' : ByteArray → Option Ent} {L : List Ent} {o : Out} {S : Array Bool}
theorem F14.idle (h : F14 W g b n B m v f L o f' γ S w) {i : Nat} (h7 : i ≠ 7) (h15 : i ≠ 15) : F14 W g b n B m v f L o f' γ (S.setIfInBounds i true) w :=
  ⟨h.mod, by rw [Ev.set_other h7]; exact h.p0, by rw [Ev.set_other h7]; exact h.p1, by rw [Ev.set_other h15]; exact h.r0, by rw [Ev.set_other h15]; exact h.r1⟩
theorem F14.start {N : Nat} (hm : Md W g b n f) (hr : Rm W B m v L) : F14 W g b n B m v f L o f' γ (Array.replicate N false) W.drew :=
  ⟨(Mod.refl _ _).drew, fun _ => hm.below (below_drew (Below.refl _ _)), fun h => absurd h not_repl, fun _ => hr.below (below_drew (Below.refl _ _)), fun h => absurd h not_repl⟩
theorem F14.below (h : F14 W g b n B m v f L o f' γ S w) {w' : World} (hb : Below w.heap.size w w') {i : Nat} (h7 : i ≠ 7) (h15 : i ≠ 15) : F14 W g b n B m v f L o f' γ (S.setIfInBounds i true) w' where
  mod := h.mod.then_below hb
  p0 := by rw [Ev.set_other h7]; exact fun hx => (h.p0 hx).below hb
  p1 := by rw [Ev.set_other h7]; exact fun hx => ⟨(h.p1 hx).1.below hb, (h.p1 hx).2.1.far (Mod.of_below hb (fun _ => False)) (fun q hq => hq.elim), (h.p1 hx).2.2⟩
  r0 := by rw [Ev.set_other h15]; exact fun hx => (h.r0 hx).below hb
  r1 := by rw [Ev.set_other h15]; exact fun hx => ⟨(h.r1 hx).1.below hb, (h.r1 hx).2.1, (h.r1 hx).2.2.1, (h.r1 hx).2.2.2.far (Mod.of_below hb (fun _ => False)) (fun q hq => hq.elim)⟩
theorem F14.map (h : F14 W g b n B m v f L o f' γ S w) (h7 : S.getD 7 true = false) {r : Rq} {A : Option Addr} {cap : Nat} {ks : List ByteArray} {now ver : Int} (hlt : g < W.heap.size ∧ b < W.heap.size ∧ m < W.heap.size) (hn : n < maxLen) (hK : Ks w A ks ∧ Pow w) (hl : ks.length ≤ 1000000) (hd : r.data.size ≤ 140737488355328) (h0 : 0 ≤ r.delta)
    (ho : outcome f r ks now ver = (o, f')) (hgm : g ≠ m) :
    Calls Tryd.prog 16 #[.pointer (some ⟨g, 0, none⟩), .agg (r.c (.slice A ks.length cap)), .int .i64 now, .int .i64 ver] w fun e w' => ∃ (A1 : Option Addr) (c1 b1 : Nat), e = .returned (.agg (o.c A1 c1)) ∧ F14 W g b n B m v f L o f' { γ with A1 := A1, c1 := c1, b1 := b1 } (S.setIfInBounds 7 true) w' := by
  have hmd := h.p0 (Ev.get_false h7)
  have hp := papply g b n f r A cap ks now ver w hmd hn hK.1 hl hK.2 hd h0
  rw [ho] at hp
  refine hp.mono fun e w' ⟨A1, c1, b1, he, ht, hm, hb1, hmod⟩ => ⟨A1, c1, b1, he, ?_⟩
  have hrow : ∀ u M, Rm w B m u M → Rm w' B m u M := fun u M hx => hx.mod hmod (fun e => e.elim (fun e => hgm e.symm) (fun e => hmd.mp.ne hx.blk e.symm)) (fun q hq e => by
    obtain ⟨cs, hc⟩ := own_typed hx.row q hq
    rcases e with e | e
    · rw [e, hmd.blk] at hc
      injection hc with hc
      injection hc with _ hc
      exact absurd hc (by decide)
    · exact hmd.mp.ne hc e.symm)
  refine ⟨h.mod.trans hmod (fun q hq => .inl (hq.elim .inl (fun e => .inr (.inl e)))), fun hx => ?_, fun _ => ⟨hm, ht.mono h.mod.size, hb1.imp id (fun e => Nat.le_trans h.mod.size e)⟩, fun hx => ?_, fun hx => ?_⟩
  · rw [Ev.set_same h7] at hx; cases hx
  · rw [Ev.set_other (by decide)] at hx; exact hrow _ _ (h.r0 hx)
  · rw [Ev.set_other (by decide)] at hx
    obtain ⟨r1, r2, r3, r4⟩ := h.r1 hx
    exact ⟨hrow _ _ r1, r2, r3, r4.far hmod (fun q hq => hq.elim (fun e => by rw [e]; exact hlt.1) (fun e => by rw [e]; exact hlt.2.1))⟩
theorem F14.row (h : F14 W g b n B m v f L o f' γ S w) (h15 : S.getD 15 true = false) {r : Rq} {A : Option Addr} {cap : Nat} {ks : List ByteArray} {now ver : Int} (hlt : g < W.heap.size ∧ b < W.heap.size ∧ m < W.heap.size) (hL : L.length < 1000000) (hK : Ks w A ks) (hl : ks.length ≤ 1000000) (hR : Rel f L) (hF : ∀ k, Fine r ((liveOf f k now).getD (keyEnt k)))
    (ho : outcome f r ks now ver = (o, f')) :
    Calls Tryd.prog 32 #[.pointer (some ⟨m, 0, none⟩), .agg (r.c (.slice A ks.length cap)), .int .i64 now, .int .i64 ver] w fun e w' => ∃ (A2 : Option Addr) (c2 : Nat) (v2 : Value) (L2 : List Ent), e = .returned (.agg (o.c A2 c2)) ∧ F14 W g b n B m v f L o f' { γ with A2 := A2, c2 := c2, v2 := v2, L2 := L2 } (S.setIfInBounds 15 true) w' := by
  have hrm := h.r0 (Ev.get_false h15)
  have hp := rapply B m v L f r A cap ks now ver w hrm hR hL hK hl hF
  rw [ho] at hp
  refine hp.mono fun e w' ⟨A2, c2, v2, L2, he, ht, hr, hrel, hlen, hmod, _⟩ => ⟨A2, c2, v2, L2, he, ?_⟩
  refine ⟨h.mod.trans hmod (fun q hq => .inl (.inr (.inr hq))), fun hx => ?_, fun hx => ?_, fun hx => ?_, fun _ => ⟨hr, hrel, hlen, ht.mono h.mod.size⟩⟩
  · rw [Ev.set_other (by decide)] at hx; exact md_far (h.p0 hx) hmod hrm.blk
  · rw [Ev.set_other (by decide)] at hx
    obtain ⟨p1, p2, p3⟩ := h.p1 hx
    exact ⟨md_far p1 hmod hrm.blk, p2.far hmod (fun q hq => by rw [hq]; exact hlt.2.2), p3⟩
  · rw [Ev.set_same h15] at hx; cases hx
end
/-- Both lists, and the twin's, against the document's rows. -/
structure F16 (W : World) (B : Nat) (L L0 : List Ent) (γ : Value × Value) (S : Array Bool) (w : World) : Prop where
  low : Below W.heap.size W w
  l1 : S.getD 1 false = true → w.ownsRow B 38 5 γ.1 L.length (L.flatMap Rm.ecl)
  l2 : S.getD 14 false = true → w.ownsRow B 38 5 γ.2 L0.length (L0.flatMap Rm.ecl)
section
variable {W w : World} {B : Nat} {L L0 : List Ent} {γ : Value × Value} {S : Array Bool}
theorem F16.below (h : F16 W B L L0 γ S w) {w' : World} (hb : Below w.heap.size w w') {i : Nat} (h1 : i ≠ 1) (h14 : i ≠ 14) : F16 W B L L0 γ (S.setIfInBounds i true) w' :=
  ⟨below_then h.low h.low.size hb, by rw [Ev.set_other h1]; exact fun hx => pw_own_below (h.l1 hx) hb, by rw [Ev.set_other h14]; exact fun hx => pw_own_below (h.l2 hx) hb⟩
theorem F16.idle (h : F16 W B L L0 γ S w) {i : Nat} (h1 : i ≠ 1) (h14 : i ≠ 14) : F16 W B L L0 γ (S.setIfInBounds i true) w := h.below (Below.refl _ _) h1 h14
theorem F16.start {N : Nat} : F16 W B L L0 γ (Array.replicate N false) W.drew := ⟨below_drew (Below.refl _ _), fun h => absurd h not_repl, fun h => absurd h not_repl⟩
theorem F16.list (h : F16 W B L L0 γ S w) {g b n : Nat} {f : ByteArray → Option Ent} (hm : Md W g b n f) (hR : Rel f L) (hn : n ≤ 1000) (hB : B ≤ W.heap.size) :
    Calls Tryd.prog 34 #[.pointer (some ⟨g, 0, none⟩)] w fun e w' => ∃ v, e = .returned v ∧ F16 W B L L0 (v, γ.2) (S.setIfInBounds 1 true) w' :=
  (list_calls g b n f L w (hm.below h.low) hR hn).mono fun e w' ⟨v, he, ho, hb⟩ => ⟨v, he, below_then h.low h.low.size hb, fun _ => own_less ho (Nat.le_trans hB h.low.size), by rw [Ev.set_other (by decide)]; exact fun hx => pw_own_below (h.l2 hx) hb⟩
theorem F16.twin (h : F16 W B L L0 γ S w) {g b n : Nat} {f : ByteArray → Option Ent} (hm : Md W g b n f) (hR : Rel f L0) (hn : n ≤ 1000) (hB : B ≤ W.heap.size) :
    Calls Tryd.prog 34 #[.pointer (some ⟨g, 0, none⟩)] w fun e w' => ∃ v, e = .returned v ∧ F16 W B L L0 (γ.1, v) (S.setIfInBounds 14 true) w' :=
  (list_calls g b n f L0 w (hm.below h.low) hR hn).mono fun e w' ⟨v, he, ho, hb⟩ => ⟨v, he, below_then h.low h.low.size hb, by rw [Ev.set_other (by decide)]; exact fun hx => pw_own_below (h.l1 hx) hb, fun _ => own_less ho (Nat.le_trans hB h.low.size)⟩
theorem arg_row {w : World} {B n : Nat} {v : Value} {xs : List Ent} (h : w.ownsRow B 38 5 v n (xs.flatMap Rm.ecl)) (hn : xs.length = n) (hl : n ≤ 9223372036854775807) : ∃ A c, v = .slice A n c ∧ Arg Rm.ecl w A n xs := by
  rcases h.2 with ⟨rfl, rfl⟩ | ⟨g, cap, cur, rfl, hg, hh, h1, _, h3, h4⟩
  · exact ⟨none, 0, rfl, hn, by omega, fun h0 => absurd h0 (by omega)⟩
  · refine ⟨_, _, rfl, hn, hl, fun _ => ⟨g, 0, rfl, fun j u hu => ?_⟩⟩
    rw [blk_cell hh, Nat.zero_add]
    rw [← h4, List.getElem?_take] at hu
    split at hu
    · rw [Array.getElem?_toList] at hu; exact hu
    · cases hu
end
end Go.Proofs.YtepklobkppdliaaDoor.Mp

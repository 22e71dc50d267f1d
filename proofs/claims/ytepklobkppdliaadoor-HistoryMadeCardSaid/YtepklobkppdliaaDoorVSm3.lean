/- The history: a row of events and the document's model side by side; the calls that are asked for. -/
import Derived.Test.YtepklobkppdliaaDoorVSm2
import Derived.Deep.LoopGhost
import Derived.Deep.CutRange
import Derived.Deep.DeepCutAuto
namespace Go.Proofs.YtepklobkppdliaaDoor.Hs
open Go.RowKit Go.Proofs.YtepklobkppdliaaDoorW.PrintWords Go.Proofs.YtepklobkppdliaaDoorW.PrintLast Go.Proofs.YtepklobkppdliaaDoorW.PrintMore Go.Proofs.YtepklobkppdliaaDoor.Lib Go.Proofs.YtepklobkppdliaaDoor.Open Go.Proofs.YtepklobkppdliaaDoor.Md
open Go.Proofs.YtepklobkppdliaaDoor.Rm (Rm)
/-- A call that is asked for. -/
structure Oc where
  who : Int
  verb : Int
  data : ByteArray
  ret : Bool
  forget : Bool
  lie : Bool
def ocl (o : Oc) : List Value := [.int .i64 o.who, .int .i64 o.verb, .string o.data, .bool o.ret, .bool o.forget, .bool o.lie]
theorem ocl_len (o : Oc) : (ocl o).length = 6 := rfl
theorem mk_o (cs : List Value) (h : Fits [.int .i64, .int .i64, .str, .bool, .bool, .bool] cs) : ∃ a, cs = ocl a := by
  obtain ⟨x1, r1, rfl, _, h⟩ := h
  obtain ⟨x2, r2, rfl, _, h⟩ := h
  obtain ⟨x3, r3, rfl, _, h⟩ := h
  obtain ⟨x4, r4, rfl, h⟩ := h
  obtain ⟨x5, r5, rfl, h⟩ := h
  obtain ⟨x6, r6, rfl, h⟩ := h
  obtain rfl : r6 = [] := h
  exact ⟨⟨x1, x2, x3, x4, x5, x6⟩, rfl⟩
/-- What an event leads to stays when a block of another type is written. -/
theorem EvOk.far {w W : World} {e : Evt} {S : Nat → Prop} (h : EvOk w e) (hm : Mod S w W) (h9 : ∀ b cs, w.heap[b]? = some (.cells cs 9 (0, 0)) → ¬ S b) (h35 : ∀ b cs, w.heap[b]? = some (.cells cs 35 (0, 0)) → ¬ S b) : EvOk W e :=
  ⟨⟨h.keys.1.far hm h9, h.keys.2⟩, ⟨h.vals.1.far hm h35, h.vals.2⟩, h.plain⟩
theorem type_ne {w : World} {g b : Nat} {cs ds : Array Value} {t u : TypeId} (hg : w.heap[g]? = some (.cells cs t (0, 0))) (hb : w.heap[b]? = some (.cells ds u (0, 0))) (h : t ≠ u) : ¬ b = g := fun e => by
  rw [e, hg] at hb
  injection hb with hb
  injection hb with _ hb
  exact h hb
/-- A row of events and the document's model, side by side. -/
structure Rw (w0 w : World) (m : Nat) (A : Option Addr) (c : Nat) (evs : List Evt) (v : Value) (L : List Ent) : Prop where
  row : w.ownsRow w0.heap.size 59 20 (.slice A evs.length c) evs.length (evs.flatMap Evt.c)
  evs : ∀ e ∈ evs, EvOk w e
  rm : Rm w w0.heap.size m v L
  low : Below w0.heap.size w0 w
section
variable {w0 w W : World} {m : Nat} {A : Option Addr} {c : Nat} {evs : List Evt} {v : Value} {L : List Ent}
theorem Rw.below (h : Rw w0 w m A c evs v L) (hb : Below w.heap.size w W) : Rw w0 W m A c evs v L :=
  ⟨pw_own_below h.row hb, fun e he => (h.evs e he).below hb, h.rm.below hb, below_then h.low h.low.size hb⟩
/-- A block of the call's own of another type is written. -/
theorem Rw.write {g : Nat} {cs : Array Value} {t : TypeId} (h : Rw w0 w m A c evs v L) (hm : Mod (fun k => k = g) w W) (hg : w.heap[g]? = some (.cells cs t (0, 0))) (hge : w0.heap.size ≤ g) (ht : t ≠ 9 ∧ t ≠ 35 ∧ t ≠ 59 ∧ t ≠ 38 ∧ t ≠ 75) : Rw w0 W m A c evs v L :=
  ⟨hm.own h.row (fun k hk e => by obtain ⟨ds, hd⟩ := own_typed h.row k hk; exact type_ne hg hd ht.2.2.1 e),
   fun e he => (h.evs e he).far hm (fun b ds hb => type_ne hg hb ht.1) (fun b ds hb => type_ne hg hb ht.2.1),
   h.rm.mod hm (type_ne hg h.rm.blk ht.2.2.2.2) (fun k hk e => by obtain ⟨ds, hd⟩ := own_typed h.rm.row k hk; exact type_ne hg hd ht.2.2.2.1 e),
   hm.after h.low h.low.size (fun k hk => by rw [hk]; exact hge)⟩
/-- The model is written. -/
theorem Rw.model {v' : Value} {L' : List Ent} (h : Rw w0 w m A c evs v L) (hm : Mod (fun k => k = m) w W) (hr : Rm W w0.heap.size m v' L') : Rw w0 W m A c evs v' L' :=
  ⟨hm.own h.row (fun k hk e => by obtain ⟨ds, hd⟩ := own_typed h.row k hk; exact type_ne h.rm.blk hd (by decide) e),
   fun e he => (h.evs e he).far hm (fun b ds hb => type_ne h.rm.blk hb (by decide)) (fun b ds hb => type_ne h.rm.blk hb (by decide)),
   hr, hm.after h.low h.low.size (fun k hk => by rw [hk]; exact h.rm.ge)⟩
/-- Events are put behind the row. -/
theorem Rw.push {A' : Option Addr} {c' : Nat} {fs : List Evt} (h : Rw w0 w m A c evs v L) (hm : Mod (fun k => some k = (Value.slice A evs.length c).ownBlock) w W) (ho : W.ownsRow w0.heap.size 59 20 (.slice A' (evs ++ fs).length c') (evs ++ fs).length ((evs ++ fs).flatMap Evt.c)) (hf : ∀ e ∈ fs, EvOk w e) : Rw w0 W m A' c' (evs ++ fs) v L := by
  have tne : ∀ (t : TypeId), t ≠ 59 → ∀ b ds, w.heap[b]? = some (.cells ds t (0, 0)) → ¬ some b = (Value.slice A evs.length c).ownBlock := fun t ht b ds hb e => by
    obtain ⟨dd, hdd⟩ := own_typed h.row b e.symm
    exact type_ne hdd hb (Ne.symm ht) rfl
  have hev : ∀ e, EvOk w e → EvOk W e := fun e he => he.far hm (tne 9 (by decide)) (tne 35 (by decide))
  refine ⟨ho, fun e he => ?_, h.rm.mod hm (tne 75 (by decide) m _ h.rm.blk) (fun k hk e => by obtain ⟨ds, hd⟩ := own_typed h.rm.row k hk; exact tne 38 (by decide) k ds hd e), hm.after h.low h.low.size (fun k hk => own_base h.row k hk.symm)⟩
  rcases List.mem_append.1 he with he | he
  · exact hev e (h.evs e he)
  · exact hev e (hf e he)
end
theorem bEv_ok2 {t : Int} {a : Aw} {vA : Option Addr} {vc : Nat} {vs : List Fd} {w : World} (h : ArgT Fd.c 35 w vA vs.length vs) (hn : vs.length ≤ 1000000) : EvOk w (bEv t a vA vc vs) :=
  ⟨⟨arg_nil _ _ _ _, by show 0 ≤ 1000000; omega⟩, ⟨h, hn⟩, fun h => absurd (show (2 : Int) = 1 from h) (by decide)⟩
end Go.Proofs.YtepklobkppdliaaDoor.Hs

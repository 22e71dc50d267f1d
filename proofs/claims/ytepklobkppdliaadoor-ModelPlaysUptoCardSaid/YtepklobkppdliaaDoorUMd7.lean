/- The model: the map of entries. -/
import Derived.Test.YtepklobkppdliaaDoorUAb
import Derived.Maps.OwnSet
namespace Go.Proofs.YtepklobkppdliaaDoor.Md
open Go.RowKit Go.Proofs.YtepklobkppdliaaDoorW.PrintWords Go.Proofs.YtepklobkppdliaaDoorW.PrintLast Go.Proofs.YtepklobkppdliaaDoorW.PrintMore Go.Proofs.YtepklobkppdliaaDoor.Lib Go.Proofs.YtepklobkppdliaaDoor.Open
open Go.Maps (Keyed IsMap)
/-- An entry, as a map's element reads. -/
def entD (e : Ent) : DataW Unit := .agg [.lit (.string e.key.data.toList), .lit (.int .i64 e.fl), .lit (.int .i64 e.dl), .lit (.string e.val.data.toList), .lit (.int .i64 e.cas)]
def entR : Value → Option (DataW Unit × List MemPlace)
  | .agg ⟨[.string k, .int .i64 f, .int .i64 d, .string v, .int .i64 c]⟩ => some (entD ⟨k, f, d, v, c⟩, [])
  | _ => none
theorem entR_mk (e : Ent) : entR (.agg e.c) = some (entD e, []) := rfl
theorem entR_inv {v : Value} {z : DataW Unit × List MemPlace} (h : entR v = some z) : ∃ e : Ent, v = .agg e.c ∧ z = (entD e, []) := by
  unfold entR at h
  split at h
  · rename_i k f d v c
    exact ⟨⟨k, f, d, v, c⟩, rfl, by simpa using h.symm⟩
  · cases h
theorem ba_inj {a b : ByteArray} (h : a.data.toList = b.data.toList) : a = b := by
  cases a
  cases b
  simp at h
  rw [h]
theorem entD_inj {e e' : Ent} (h : entD e = entD e') : e = e' := by
  obtain ⟨a1, a2, a3, a4, a5⟩ := e
  obtain ⟨b1, b2, b3, b4, b5⟩ := e'
  simp [entD] at h
  obtain ⟨h1, h2, h3, h4, h5⟩ := h
  rw [ba_inj (congrArg Array.toList h1), h2, h3, ba_inj (congrArg Array.toList h4), h5]
def keyL (k : ByteArray) : Lit := .string k.data.toList
theorem keyL_inj {a b : ByteArray} (h : keyL a = keyL b) : a = b := ba_inj (by simpa [keyL] using h)
theorem keyLaw : Keyed Tryd.prog 9 := Go.Maps.string_keyed Tryd.underlying9
def zent : Ent := ⟨⟨#[]⟩, 0, 0, ⟨#[]⟩, 0⟩
theorem zero38 (w : World) : (zeroValue 38).run Tryd.prog w = .ok (.agg zent.c) w := by kernel_rfl
/-- Block b is a map of at most n entries: key by key what f tells. -/
def Mp (w : World) (b n : Nat) (f : ByteArray → Option Ent) : Prop :=
  ∃ D, w.ownsMap Tryd.prog 9 entR b n D ∧ ∀ k : ByteArray, Maps.has D (keyL k) = (f k).isSome ∧ ∀ e, f k = some e → D.atKey (keyL k) (entD zent) = entD e
def upd (f : ByteArray → Option Ent) (k : ByteArray) (e : Option Ent) : ByteArray → Option Ent := fun j => if j = k then e else f j
section
variable {w w' : World} {b n : Nat} {f : ByteArray → Option Ent}
theorem Mp.lt (h : Mp w b n f) : b < w.heap.size := by
  obtain ⟨D, h, _⟩ := h
  exact h.lt
theorem Mp.mod (h : Mp w b n f) {S : Nat → Prop} (hm : Mod S w w') (hb : ¬ S b) : Mp w' b n f := by
  obtain ⟨D, h, hk⟩ := h
  obtain ⟨es, clock, h1, h2⟩ := h
  exact ⟨D, ⟨es, clock, (hm.block b (blk_lt h1) hb).trans h1, h2⟩, hk⟩
theorem Mp.below (h : Mp w b n f) (hm : Below w.heap.size w w') : Mp w' b n f := h.mod (Mod.of_below hm (fun _ => False)) (fun h => h)
theorem Mp.mono (h : Mp w b n f) {m : Nat} (hn : n ≤ m) : Mp w b m f := by
  obtain ⟨D, h, hk⟩ := h
  exact ⟨D, h.mono hn, hk⟩
theorem Mp.new (w : World) : Mp (w.alloc (.map #[] 0)) w.heap.size 0 (fun _ => none) :=
  ⟨_, World.ownsMap_made w Tryd.prog 9 entR, fun k => ⟨rfl, fun e h => by cases h⟩⟩
/-- Its block is no row of cells. -/
theorem Mp.ne (h : Mp w b n f) {g : Nat} {cs : Array Value} {t : TypeId} {fr : Nat × Nat} (hg : w.heap[g]? = some (.cells cs t fr)) : b ≠ g := by
  obtain ⟨D, ⟨es, clock, h1, _⟩, _⟩ := h
  rintro rfl
  rw [h1] at hg
  cases hg
theorem key_of (k : ByteArray) (hk : k.size ≤ maxLen) : keyOf Tryd.prog 9 (.string k) = some (keyL k) := WideMaps.keyOf_string_mk Tryd.underlying9 hk
theorem Mp.look (h : Mp w b n f) (k : ByteArray) (hk : k.size ≤ maxLen) : (Instr.lookup 80 (.map (some b)) (.string k) true).run Tryd.prog w = .ok (.tuple #[.agg ((f k).getD zent).c, .bool (f k).isSome]) w := by
  obtain ⟨D, h, hf⟩ := h
  obtain ⟨h1, h2⟩ := hf k
  obtain ⟨v, ps, hr, hv⟩ := h.look_ok keyLaw Tryd.underlying80 (zero38 w) (entR_mk zent) (key_of k hk)
  rw [hr, h1]
  obtain ⟨e, rfl, he⟩ := entR_inv hv
  have hd : D.atKey (keyL k) (entD zent) = entD e := congrArg Prod.fst he
  cases hk2 : f k with
  | none =>
    rw [hk2] at h1
    rw [Maps.atKey_of_not_has h1] at hd
    rw [← entD_inj hd]
    rfl
  | some x =>
    rw [h2 x hk2] at hd
    rw [← entD_inj hd]
    rfl
theorem key_lit (k : ByteArray) : WideAt.IsKeyLit (keyL k) := by unfold keyL; trivial
theorem has_keyL_put {D : DataW Unit} (hD : IsMap D) (k j : ByteArray) (d : DataW Unit) : Maps.has (D.put (keyL k) d) (keyL j) = if j = k then true else Maps.has D (keyL j) := by
  by_cases h : j = k
  · subst h
    rw [if_pos rfl, Maps.has_put_same hD (key_lit j)]
  · rw [if_neg h, Maps.has_put_other (fun e => h (keyL_inj e))]
theorem Mp.store (h : Mp w b n f) (hn : n < maxLen) (k : ByteArray) (hk : k.size ≤ maxLen) (e : Ent) : ∃ w', (Instr.mapUpdate 80 (.map (some b)) (.string k) (.agg e.c)).run Tryd.prog w = .ok () w' ∧ Mp w' b (n + 1) (upd f k (some e)) ∧ Mod (fun q => q = b) w w' := by
  obtain ⟨D, h, hf⟩ := h
  obtain ⟨w', hr, ho, hg⟩ := h.update keyLaw Tryd.underlying80 hn (key_of k hk) (entR_mk e)
  refine ⟨w', hr, ⟨_, ho, fun j => ?_⟩, (Mod.of_grown hg).mono (fun q hq => by injection hq)⟩
  unfold upd
  rw [has_keyL_put h.isMap]
  by_cases hj : j = k
  · subst hj
    rw [if_pos rfl, if_pos rfl]
    exact ⟨rfl, fun x hx => by rw [← Option.some.inj hx, Maps.atKey_put_same h.isMap (key_lit j)]⟩
  · rw [if_neg hj, if_neg hj, Maps.atKey_put_other (fun e => hj (keyL_inj e))]
    exact hf j
theorem Mp.drop (h : Mp w b n f) (k : ByteArray) (hk : k.size ≤ maxLen) (ty : TypeId) : ∃ w', (Builtin.delete_ #[80, 9] ty #[.map (some b), .string k]).run Tryd.prog w = .ok (.tuple #[]) w' ∧ Mp w' b n (upd f k none) ∧ Mod (fun q => q = b) w w' := by
  obtain ⟨D, h, hf⟩ := h
  obtain ⟨w', hr, ho, hg⟩ := h.drop keyLaw Tryd.underlying80 (key_of k hk) ty
  refine ⟨w', hr, ⟨_, ho, fun j => ?_⟩, (Mod.of_grown hg.grown).mono (fun q hq => by injection hq)⟩
  unfold upd
  by_cases hj : j = k
  · subst hj
    rw [if_pos rfl, Maps.has_del_same]
    exact ⟨rfl, fun x hx => by cases hx⟩
  · rw [if_neg hj, Maps.has_del_other (fun e => hj (keyL_inj e)), Maps.atKey_del_other (fun e => hj (keyL_inj e))]
    exact hf j
end
/-- The model at block g: its map at block b. -/
structure Md (w : World) (g b n : Nat) (f : ByteArray → Option Ent) : Prop where
  blk : w.heap[g]? = some (.cells #[.map (some b)] 82 (0, 0))
  mp : Mp w b n f
  vs : ∀ k e, f k = some e → e.val.size ≤ 140737488355328
section
variable {w w' : World} {g b n : Nat} {f : ByteArray → Option Ent}
theorem Md.ne (h : Md w g b n f) : b ≠ g := h.mp.ne h.blk
theorem Md.below (h : Md w g b n f) (hm : Below w.heap.size w w') : Md w' g b n f := ⟨(hm.block _ (blk_lt h.blk)).trans h.blk, h.mp.below hm, h.vs⟩
theorem Md.mod (h : Md w g b n f) {S : Nat → Prop} (hm : Mod S w w') (hg : ¬ S g) (hb : ¬ S b) : Md w' g b n f := ⟨hm.blk h.blk hg, h.mp.mod hm hb, h.vs⟩
theorem Md.lt (h : Md w g b n f) : g < w.heap.size ∧ b < w.heap.size := ⟨blk_lt h.blk, h.mp.lt⟩
end
end Go.Proofs.YtepklobkppdliaaDoor.Md

/- The history: four callers in memory. -/
import Derived.Test.YtepklobkppdliaaDoorVSn1
namespace Go.Proofs.YtepklobkppdliaaDoor.Hs
open Go.RowKit Go.Proofs.YtepklobkppdliaaDoorW.PrintWords Go.Proofs.YtepklobkppdliaaDoorW.PrintLast Go.Proofs.YtepklobkppdliaaDoorW.PrintMore Go.Proofs.YtepklobkppdliaaDoor.Lib Go.Proofs.YtepklobkppdliaaDoor.Open Go.Proofs.YtepklobkppdliaaDoor.Md
open Go.Proofs.YtepklobkppdliaaDoor.Rm (Rm)
set_option maxHeartbeats 4000000 in
set_option maxRecDepth 100000 in
theorem within_any (n : Int) (m : Nat) (hm : m ≤ 1000) (w : World) : Calls Tryd.prog 21 #[.int .i64 n, .int .i64 0, .int .i64 (m : Int)] w fun e w' => ∃ x : Nat, e = .returned (.int .i64 (x : Int)) ∧ x ≤ m ∧ w' = w := by
  have hr : -((m : Int) + 1) < Int.tmod n ((m : Int) + 1) ∧ Int.tmod n ((m : Int) + 1) < (m : Int) + 1 := by
    have := Int.tmod_lt_of_pos n (show (0 : Int) < (m : Int) + 1 by omega)
    have h2 := Int.tmod_lt_of_pos (-n) (show (0 : Int) < (m : Int) + 1 by omega)
    rw [Int.neg_tmod] at h2
    omega
  have hm2 : (m : Int) ≤ 1000 := by omega
  have hm0 : ¬ (m : Int) + 1 = 0 := by omega
  by_cases h : Int.tmod n ((m : Int) + 1) < 0
  · have r1 : decide (Int.tmod n ((m : Int) + 1) < 0) = true := decide_eq_true (by omega)
    go_enter Tryd.func21, Tryd.ntmps21
    go_wp2
    go_ret
    exact ⟨(Int.tmod n ((m : Int) + 1) + m + 1).toNat, by rw [Int.toNat_of_nonneg (by omega)]; rfl, by omega, rfl⟩
  · have r1 : decide (Int.tmod n ((m : Int) + 1) < 0) = false := decide_eq_false (by omega)
    go_enter Tryd.func21, Tryd.ntmps21
    go_wp2
    go_ret
    exact ⟨(Int.tmod n ((m : Int) + 1)).toNat, by rw [Int.toNat_of_nonneg (by omega)]; rfl, by omega, rfl⟩
/-- A block of four parts of s cells, each as told. -/
def Parts (w : World) (g : Nat) (t : TypeId) (s : Nat) (c : Nat → List Value) : Prop := ∃ cur, w.heap[g]? = some (.cells cur t (0, 0)) ∧ cur.size = 4 * s ∧ ∀ j, j < 4 → ∀ i u, (c j)[i]? = some u → cur[j * s + i]? = some u
section
variable {w W : World} {g : Nat} {t : TypeId} {s : Nat} {c d : Nat → List Value}
theorem Parts.typ (h : Parts w g t s c) : ∃ cur, w.heap[g]? = some (.cells cur t (0, 0)) := by
  obtain ⟨cur, h1, _⟩ := h
  exact ⟨cur, h1⟩
theorem Parts.lt (h : Parts w g t s c) : g < w.heap.size := by
  obtain ⟨cur, h1, _⟩ := h
  exact blk_lt h1
theorem Parts.far {S : Nat → Prop} (h : Parts w g t s c) (hm : Mod S w W) (hS : ¬ S g) : Parts W g t s c := by
  obtain ⟨cur, h1, h2⟩ := h
  exact ⟨cur, hm.blk h1 hS, h2⟩
theorem Parts.cell (h : Parts w g t s c) {j : Nat} (hj : j < 4) {i : Nat} {u : Value} (hu : (c j)[i]? = some u) : w.cell? ⟨g, j * s + i, none⟩ = some u ∧ w.frozen? ⟨g, j * s + i, none⟩ = false := by
  obtain ⟨cur, h1, _, h3⟩ := h
  exact ⟨(blk_cell h1 _).trans (h3 j hj i u hu), blk_frozen h1 _⟩
theorem Parts.range (h : Parts w g t s c) {j : Nat} (hj : j < 4) : w.rangeAt g (j * s) (c j) := fun _ _ hu => (h.cell hj hu).1
/-- One part is written. -/
theorem Parts.put (h : Parts w g t s c) {k : Nat} (hk : k < 4) (hc : ∀ j, j < 4 → (c j).length = s) {cells cur' : Array Value} {cur : Array Value} (hb : w.heap[g]? = some (.cells cur t (0, 0))) (hs : cells.size = s) (h1 : W.heap[g]? = some (.cells cur' t (0, 0))) (h2 : cur'.size = cur.size)
    (h3 : cur'.toList = cur.toList.take (k * s) ++ cells.toList ++ cur.toList.drop (k * s + cells.size)) (hd : ∀ j, j < 4 → j ≠ k → d j = c j) (hdk : d k = cells.toList) : Parts W g t s d := by
  obtain ⟨cur0, g1, g2, g3⟩ := h
  rw [hb] at g1
  injection g1 with g1
  injection g1 with g1
  subst g1
  refine ⟨cur', h1, by omega, fun j hj i u hu => ?_⟩
  have hks : k * s + s ≤ 4 * s := by
    have := Nat.mul_le_mul_right s (show k + 1 ≤ 4 by omega)
    rw [Nat.add_mul, Nat.one_mul] at this
    exact this
  have hlt : (cur.toList.take (k * s)).length = k * s := by rw [List.length_take, Array.length_toList]; omega
  rw [← Array.getElem?_toList, h3]
  by_cases e : j = k
  · subst e
    rw [hdk] at hu
    have hi := (List.getElem?_eq_some_iff.1 hu).1
    rw [List.append_assoc, List.getElem?_append_right (by omega), hlt, Nat.add_sub_cancel_left, List.getElem?_append_left hi]
    exact hu
  · rw [hd j hj e] at hu
    have hi := (List.getElem?_eq_some_iff.1 hu).1
    rw [hc j hj] at hi
    have hold := g3 j hj i u hu
    rw [← Array.getElem?_toList] at hold
    by_cases hlo : j < k
    · have : j * s + s ≤ k * s := by
        have := Nat.mul_le_mul_right s (show j + 1 ≤ k by omega)
        rw [Nat.add_mul, Nat.one_mul] at this
        exact this
      rw [List.append_assoc, List.getElem?_append_left (by omega), List.getElem?_take, if_pos (by omega)]
      exact hold
    · have : k * s + s ≤ j * s := by
        have := Nat.mul_le_mul_right s (show k + 1 ≤ j by omega)
        rw [Nat.add_mul, Nat.one_mul] at this
        exact this
      have hl2 : (cur.toList.take (k * s) ++ cells.toList).length = k * s + s := by rw [List.length_append, hlt, Array.length_toList, hs]
      rw [List.getElem?_append_right (by omega), hl2, List.getElem?_drop, hs, show k * s + s + (j * s + i - (k * s + s)) = j * s + i by omega]
      exact hold
theorem Parts.one (h : Parts w g t 1 c) {j : Nat} (hj : j < 4) {u : Value} (hu : c j = [u]) : w.cell? ⟨g, j, none⟩ = some u ∧ w.frozen? ⟨g, j, none⟩ = false := by
  have := h.cell hj (i := 0) (u := u) (by rw [hu]; rfl)
  rw [Nat.mul_one, Nat.add_zero] at this
  exact this
/-- One cell is written: parts of one cell. -/
theorem Parts.set (h : Parts w g t 1 c) {k : Nat} (hk : k < 4) (hc : ∀ j, j < 4 → (c j).length = 1) (u : Value) (hd : ∀ j, j < 4 → j ≠ k → d j = c j) (hdk : d k = [u]) : Parts (w.setCell ⟨g, k, none⟩ u) g t 1 d := by
  obtain ⟨cur, g1, g2, g3⟩ := h
  refine ⟨cur.setIfInBounds k u, blk_put g1 k u rfl, by simpa using g2, fun j hj i v hv => ?_⟩
  by_cases e : j = k
  · subst e
    rw [hdk] at hv
    cases i with
    | zero =>
      rw [← Option.some.inj hv, Nat.mul_one, Nat.add_zero, Array.getElem?_setIfInBounds_self_of_lt (by omega)]
    | succ i => simp at hv
  · rw [hd j hj e] at hv
    have hi := (List.getElem?_eq_some_iff.1 hv).1
    rw [hc j hj] at hi
    rw [Array.getElem?_setIfInBounds_ne (by omega)]
    exact g3 j hj i v hv
end
/-- Four callers in memory: the calls, the requests, which took effect, the answers. -/
structure Pls (w : World) (B go gr gd ga : Nat) (f : Nat → Pl) : Prop where
  opn : Parts w go 30 1 (fun j => [.int .i64 ((f j).op : Int)])
  req : Parts w gr 91 9 (fun j => (f j).rc)
  don : Parts w gd 92 1 (fun j => [.bool (f j).dn])
  ans : Parts w ga 93 9 (fun j => (f j).ac)
  key : ∀ j, j < 4 → (f j).op ≠ 0 → ∃ gk : Nat, (f j).kv = .slice (some ⟨gk, 0, none⟩) 1 1 ∧ w.heap[gk]? = some (.cells #[.string keyA] 9 (0, 0))
  val : ∀ j, j < 4 → ArgT Fd.c 35 w (f j).vA (f j).vs.length (f j).vs ∧ (f j).vs.length ≤ 1000000
  low : B ≤ go ∧ B ≤ gr ∧ B ≤ gd ∧ B ≤ ga
section
variable {w W : World} {B go gr gd ga : Nat} {f : Nat → Pl}
theorem rc_len (p : Pl) : p.rc.length = 9 := rfl
theorem ac_len (p : Pl) : p.ac.length = 9 := rfl
/-- Blocks of other types are written. -/
theorem Pls.far {S : Nat → Prop} (h : Pls w B go gr gd ga f) (hm : Mod S w W) (hS : ∀ (t : TypeId), t = 30 ∨ t = 91 ∨ t = 92 ∨ t = 93 ∨ t = 9 ∨ t = 35 → ∀ b cs, w.heap[b]? = some (.cells cs t (0, 0)) → ¬ S b) : Pls W B go gr gd ga f where
  opn := by obtain ⟨cs, hc⟩ := h.opn.typ; exact h.opn.far hm (hS 30 (by decide) go cs hc)
  req := by obtain ⟨cs, hc⟩ := h.req.typ; exact h.req.far hm (hS 91 (by decide) gr cs hc)
  don := by obtain ⟨cs, hc⟩ := h.don.typ; exact h.don.far hm (hS 92 (by decide) gd cs hc)
  ans := by obtain ⟨cs, hc⟩ := h.ans.typ; exact h.ans.far hm (hS 93 (by decide) ga cs hc)
  key := fun j hj h0 => by
    obtain ⟨gk, e, hc⟩ := h.key j hj h0
    exact ⟨gk, e, hm.blk hc (hS 9 (by decide) gk _ hc)⟩
  val := fun j hj => ⟨(h.val j hj).1.far hm (hS 35 (by decide)), (h.val j hj).2⟩
  low := h.low
theorem Pls.below (h : Pls w B go gr gd ga f) (hb : Below w.heap.size w W) : Pls W B go gr gd ga f :=
  h.far (Mod.of_below hb (fun _ => False)) (fun _ _ _ _ _ h => h)
theorem Pls.write {g : Nat} {cs : Array Value} {t : TypeId} (h : Pls w B go gr gd ga f) (hm : Mod (fun k => k = g) w W) (hg : w.heap[g]? = some (.cells cs t (0, 0))) (ht : t ≠ 30 ∧ t ≠ 91 ∧ t ≠ 92 ∧ t ≠ 93 ∧ t ≠ 9 ∧ t ≠ 35) : Pls W B go gr gd ga f :=
  h.far hm (fun u hu b ds hb => type_ne hg hb (fun e => by rcases hu with h1 | h1 | h1 | h1 | h1 | h1 <;> rw [h1] at e <;> simp [e] at ht))
theorem Parts.congr {g : Nat} {t : TypeId} {s : Nat} {c d : Nat → List Value} (h : Parts w g t s c) (e : ∀ j, j < 4 → d j = c j) : Parts w g t s d := by
  obtain ⟨cur, h1, h2, h3⟩ := h
  exact ⟨cur, h1, h2, fun j hj i u hu => h3 j hj i u (by rw [← e j hj]; exact hu)⟩
/-- One caller has something else. -/
theorem Pls.upd (h : Pls w B go gr gd ga f) {S : Nat → Prop} (hm : Mod S w W) {k : Nat} (p : Pl) (h9 : ∀ b cs, w.heap[b]? = some (.cells cs 9 (0, 0)) → ¬ S b) (h35 : ∀ b cs, w.heap[b]? = some (.cells cs 35 (0, 0)) → ¬ S b)
    (h1 : Parts W go 30 1 (fun j => [.int .i64 ((upd4 f k p j).op : Int)])) (h2 : Parts W gr 91 9 (fun j => (upd4 f k p j).rc)) (h3 : Parts W gd 92 1 (fun j => [.bool (upd4 f k p j).dn])) (h4 : Parts W ga 93 9 (fun j => (upd4 f k p j).ac))
    (hkey : p.op ≠ 0 → ∃ gk : Nat, p.kv = .slice (some ⟨gk, 0, none⟩) 1 1 ∧ w.heap[gk]? = some (.cells #[.string keyA] 9 (0, 0))) (hval : ArgT Fd.c 35 w p.vA p.vs.length p.vs ∧ p.vs.length ≤ 1000000) : Pls W B go gr gd ga (upd4 f k p) where
  opn := h1
  req := h2
  don := h3
  ans := h4
  key := fun j hj h0 => by
    by_cases e : j = k
    · subst e
      rw [upd_at] at h0 ⊢
      obtain ⟨gk, e, hc⟩ := hkey h0
      exact ⟨gk, e, hm.blk hc (h9 gk _ hc)⟩
    · rw [upd_off _ e] at h0 ⊢
      obtain ⟨gk, e, hc⟩ := h.key j hj h0
      exact ⟨gk, e, hm.blk hc (h9 gk _ hc)⟩
  val := fun j hj => by
    by_cases e : j = k
    · subst e
      rw [upd_at]
      exact ⟨hval.1.far hm h35, hval.2⟩
    · rw [upd_off _ e]
      exact ⟨(h.val j hj).1.far hm h35, (h.val j hj).2⟩
  low := h.low
theorem upd_same {α : Type} (F : Pl → α) {f : Nat → Pl} {k : Nat} {p : Pl} (e : F p = F (f k)) (j : Nat) : F (upd4 f k p j) = F (f j) := by
  by_cases h : j = k
  · subst h; rw [upd_at, e]
  · rw [upd_off _ h]
/-- A call is written. -/
theorem Pls.setOpn (h : Pls w B go gr gd ga f) {k : Nat} (hk : k < 4) (t : Nat) (ht : t ≠ 0 → ∃ gk : Nat, (f k).kv = .slice (some ⟨gk, 0, none⟩) 1 1 ∧ w.heap[gk]? = some (.cells #[.string keyA] 9 (0, 0))) : Pls (w.setCell ⟨go, k, none⟩ (.int .i64 (t : Int))) B go gr gd ga (upd4 f k { f k with op := t }) := by
  have hm : Mod (fun q => q = go) w (w.setCell ⟨go, k, none⟩ (.int .i64 (t : Int))) := Mod.setCell (S := fun q => q = go) (Mod.refl _ _) (p := ⟨go, k, none⟩) (.inl rfl) _
  obtain ⟨c1, t1⟩ := h.opn.typ
  obtain ⟨c2, t2⟩ := h.req.typ
  obtain ⟨c3, t3⟩ := h.don.typ
  obtain ⟨c4, t4⟩ := h.ans.typ
  exact h.upd hm _ (fun b cs hb => type_ne t1 hb (by decide)) (fun b cs hb => type_ne t1 hb (by decide)) (h.opn.set hk (fun _ _ => rfl) _ (fun j _ e => by rw [upd_off _ e]) (by rw [upd_at]))
    ((h.req.far hm (type_ne t1 t2 (by decide))).congr (fun j _ => upd_same Pl.rc (p := { f k with op := t }) rfl j)) ((h.don.far hm (type_ne t1 t3 (by decide))).congr (fun j _ => congrArg (fun b => [Value.bool b]) (upd_same Pl.dn (p := { f k with op := t }) rfl j)))
    ((h.ans.far hm (type_ne t1 t4 (by decide))).congr (fun j _ => upd_same Pl.ac (p := { f k with op := t }) rfl j)) ht (h.val k hk)
/-- Whether it took effect is written. -/
theorem Pls.setDon (h : Pls w B go gr gd ga f) {k : Nat} (hk : k < 4) (b : Bool) : Pls (w.setCell ⟨gd, k, none⟩ (.bool b)) B go gr gd ga (upd4 f k { f k with dn := b }) := by
  have hm : Mod (fun q => q = gd) w (w.setCell ⟨gd, k, none⟩ (.bool b)) := Mod.setCell (S := fun q => q = gd) (Mod.refl _ _) (p := ⟨gd, k, none⟩) (.inl rfl) _
  obtain ⟨c1, t1⟩ := h.opn.typ
  obtain ⟨c2, t2⟩ := h.req.typ
  obtain ⟨c3, t3⟩ := h.don.typ
  obtain ⟨c4, t4⟩ := h.ans.typ
  exact h.upd hm _ (fun b cs hb => type_ne t3 hb (by decide)) (fun b cs hb => type_ne t3 hb (by decide)) ((h.opn.far hm (type_ne t3 t1 (by decide))).congr (fun j _ => congrArg (fun m : Nat => [Value.int .i64 (m : Int)]) (upd_same Pl.op (p := { f k with dn := b }) rfl j)))
    ((h.req.far hm (type_ne t3 t2 (by decide))).congr (fun j _ => upd_same Pl.rc (p := { f k with dn := b }) rfl j)) (h.don.set hk (fun _ _ => rfl) _ (fun j _ e => by rw [upd_off _ e]) (by rw [upd_at]))
    ((h.ans.far hm (type_ne t3 t4 (by decide))).congr (fun j _ => upd_same Pl.ac (p := { f k with dn := b }) rfl j)) (fun h0 => h.key k hk h0) (h.val k hk)
/-- A request is written. -/
theorem Pls.setReq (h : Pls w B go gr gd ga f) {k : Nat} (hk : k < 4) (r : Rq) (kv : Value) (h0 : (f k).op = 0) {cur cur' : Array Value} (hb : w.heap[gr]? = some (.cells cur 91 (0, 0))) (g1 : W.heap[gr]? = some (.cells cur' 91 (0, 0))) (g2 : cur'.size = cur.size)
    (g3 : cur'.toList = cur.toList.take (k * 9) ++ (r.c kv).toList ++ cur.toList.drop (k * 9 + (r.c kv).size)) (hm : Mod (fun q => q = gr) w W) : Pls W B go gr gd ga (upd4 f k { f k with r := r, kv := kv }) := by
  obtain ⟨c1, t1⟩ := h.opn.typ
  obtain ⟨c3, t3⟩ := h.don.typ
  obtain ⟨c4, t4⟩ := h.ans.typ
  exact h.upd hm _ (fun b cs hb2 => type_ne hb hb2 (by decide)) (fun b cs hb2 => type_ne hb hb2 (by decide)) ((h.opn.far hm (type_ne hb t1 (by decide))).congr (fun j _ => congrArg (fun m : Nat => [Value.int .i64 (m : Int)]) (upd_same Pl.op (p := { f k with r := r, kv := kv }) rfl j)))
    (h.req.put hk (fun _ _ => rfl) hb rfl g1 g2 g3 (fun j _ e => by rw [upd_off _ e]) (by rw [upd_at]; rfl)) ((h.don.far hm (type_ne hb t3 (by decide))).congr (fun j _ => congrArg (fun b => [Value.bool b]) (upd_same Pl.dn (p := { f k with r := r, kv := kv }) rfl j)))
    ((h.ans.far hm (type_ne hb t4 (by decide))).congr (fun j _ => upd_same Pl.ac (p := { f k with r := r, kv := kv }) rfl j)) (fun h1 => absurd h0 h1) (h.val k hk)
/-- An answer is written. -/
theorem Pls.setAns (h : Pls w B go gr gd ga f) {k : Nat} (hk : k < 4) (aw : Aw) (vA : Option Addr) (vc : Nat) (vs : List Fd) (hv : ArgT Fd.c 35 w vA vs.length vs ∧ vs.length ≤ 1000000) {cur cur' : Array Value} (hb : w.heap[ga]? = some (.cells cur 93 (0, 0))) (g1 : W.heap[ga]? = some (.cells cur' 93 (0, 0))) (g2 : cur'.size = cur.size)
    (g3 : cur'.toList = cur.toList.take (k * 9) ++ (aw.c (.slice vA vs.length vc)).toList ++ cur.toList.drop (k * 9 + (aw.c (.slice vA vs.length vc)).size)) (hm : Mod (fun q => q = ga) w W) : Pls W B go gr gd ga (upd4 f k { f k with aw := aw, vA := vA, vc := vc, vs := vs }) := by
  obtain ⟨c1, t1⟩ := h.opn.typ
  obtain ⟨c2, t2⟩ := h.req.typ
  obtain ⟨c3, t3⟩ := h.don.typ
  exact h.upd hm _ (fun b cs hb2 => type_ne hb hb2 (by decide)) (fun b cs hb2 => type_ne hb hb2 (by decide)) ((h.opn.far hm (type_ne hb t1 (by decide))).congr (fun j _ => congrArg (fun m : Nat => [Value.int .i64 (m : Int)]) (upd_same Pl.op (p := { f k with aw := aw, vA := vA, vc := vc, vs := vs }) rfl j)))
    ((h.req.far hm (type_ne hb t2 (by decide))).congr (fun j _ => upd_same Pl.rc (p := { f k with aw := aw, vA := vA, vc := vc, vs := vs }) rfl j)) ((h.don.far hm (type_ne hb t3 (by decide))).congr (fun j _ => congrArg (fun b => [Value.bool b]) (upd_same Pl.dn (p := { f k with aw := aw, vA := vA, vc := vc, vs := vs }) rfl j)))
    (h.ans.put hk (fun _ _ => rfl) hb rfl g1 g2 g3 (fun j _ e => by rw [upd_off _ e]) (by rw [upd_at]; rfl)) (fun h1 => h.key k hk h1) hv
/-- The row of events is written. -/
theorem Pls.push (h : Pls w B go gr gd ga f) {n : Nat} {v : Value} {xs : List Value} (hr : w.ownsRow B 59 20 v n xs) (hm : Mod (fun k => some k = v.ownBlock) w W) : Pls W B go gr gd ga f :=
  h.far hm (fun u hu b ds hb e => by
    obtain ⟨dd, hdd⟩ := own_typed hr b e.symm
    exact type_ne hdd hb (fun e => by rcases hu with h1 | h1 | h1 | h1 | h1 | h1 <;> rw [h1] at e <;> exact absurd e (by decide)) rfl)
theorem upd_upd (f : Nat → Pl) (k : Nat) (p q : Pl) : upd4 (upd4 f k p) k q = upd4 f k q := by
  funext j
  by_cases e : j = k
  · subst e; rw [upd_at, upd_at]
  · rw [upd_off _ e, upd_off _ e, upd_off _ e]
theorem Pls.opnC (h : Pls w B go gr gd ga f) {k : Nat} (hk : k < 4) : w.cell? ⟨go, k, none⟩ = some (.int .i64 ((f k).op : Int)) ∧ w.frozen? ⟨go, k, none⟩ = false := h.opn.one hk rfl
theorem Pls.donC (h : Pls w B go gr gd ga f) {k : Nat} (hk : k < 4) : w.cell? ⟨gd, k, none⟩ = some (.bool (f k).dn) ∧ w.frozen? ⟨gd, k, none⟩ = false := h.don.one hk rfl
end
/-- The request of a call of these histories. -/
def mRq (v : Int) (d : ByteArray) : Rq := ⟨v, 0, 0, 0, 0, 1, false, d⟩
theorem mRq_ok {v : Int} {d : ByteArray} (hv : v = 1 ∨ v = 3 ∨ v = 4 ∨ v = 5 ∨ v = 6 ∨ v = 7 ∨ v = 9 ∨ v = 10) (hd : d.size ≤ 50) : MRq (mRq v d) :=
  ⟨by show v ≠ 2 ∧ v ≠ 8 ∧ v ≠ 13; omega, rfl, hd, by show (0 : Int) ≤ 1; omega, ⟨by show v ≠ 13 ∧ v ≠ 2 ∧ v ≠ 8; omega, rfl, by show d.size ≤ _; omega, by show (0 : Int) ≤ 1; omega, rfl⟩⟩
def mEv (t : Int) (r : Rq) (gk : Nat) : Evt := ⟨1, t, r, some ⟨gk, 0, none⟩, 1, [keyA], zAw, none, 0, []⟩
theorem mEv_ok {t : Int} {r : Rq} {gk : Nat} {w : World} (h : w.heap[gk]? = some (.cells #[.string keyA] 9 (0, 0))) (hv : r.verb ≠ 13) : EvOk w (mEv t r gk) :=
  ⟨⟨arg_one h rfl, by show 1 ≤ 1000000; omega⟩, ⟨arg_nil _ _ _ _, by show 0 ≤ 1000000; omega⟩, fun _ => hv⟩
end Go.Proofs.YtepklobkppdliaaDoor.Hs

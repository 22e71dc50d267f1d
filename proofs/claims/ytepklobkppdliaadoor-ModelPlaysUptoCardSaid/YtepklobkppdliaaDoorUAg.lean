/- The model: ModelRuns: what is told. The model: ModelRuns answers true. The model: one key; what counting comes to; a region whose calls make memory. -/
import Derived.Test.YtepklobkppdliaaDoorUAf
import Derived.BigQuiet
section
namespace Go.Proofs.YtepklobkppdliaaDoor.Md
open Go.RowKit Go.Proofs.YtepklobkppdliaaDoorW.PrintWords Go.Proofs.YtepklobkppdliaaDoorW.PrintLast Go.Proofs.YtepklobkppdliaaDoorW.PrintMore Go.Proofs.YtepklobkppdliaaDoor.Lib Go.Proofs.YtepklobkppdliaaDoor.Open
def kA : ByteArray := ⟨#[97]⟩
def eA : ByteArray := ⟨#[]⟩
def t5 : ByteArray := ⟨#[53]⟩
def t15 : ByteArray := ⟨#[49, 53]⟩
def f0 : ByteArray → Option Ent := fun _ => none
def f1 := upd f0 kA (some ⟨kA, 1, 0, t5, 1⟩)
def f2 := upd f1 kA (some ⟨kA, 1, 0, t15, 2⟩)
def f4 := upd f2 kA none
def f5 := upd f4 kA (some ⟨kA, 1, 110, t5, 7⟩)
theorem dec15 : dec 15 = t15 := by
  unfold dec
  rw [show Lib.decDigits 15 = [49, 53] by
    rw [Lib.decDigits, dif_neg (by decide), Lib.decDigits, dif_pos (by decide)]
    rfl]
  rfl
theorem a1 : applyTo f0 { rqOf 3 t5 0 with fl := 1 } kA 0 1 = (say 2, f1) := rfl
theorem num5 : numOf t5 = some 5 := by decide +kernel
theorem n2 : nextOf (rqOf 10 eA 10) ⟨kA, 1, 0, t5, 1⟩ true 0 2 = (⟨8, 15, ⟨#[]⟩⟩, ⟨kA, 1, 0, t15, 2⟩, true, false) := by
  have hn : numTo (rqOf 10 eA 10) 5 = 15 := by decide +kernel
  unfold nextOf
  rw [if_neg (by decide), if_neg (by decide), if_neg (by decide), if_neg (by decide), if_pos (by decide), if_pos rfl, if_neg (by decide), if_neg (by decide), if_neg (by decide)]
  have h5 : numOf (⟨kA, 1, 0, t5, 1⟩ : Ent).val = some 5 := num5
  rw [h5]
  show ((⟨8, (numTo (rqOf 10 eA 10) 5 : Int), ⟨#[]⟩⟩ : An), (⟨kA, 1, 0, dec (numTo (rqOf 10 eA 10) 5), 2⟩ : Ent), true, false) = _
  rw [hn, dec15]
  rfl
theorem l1 : liveOf f1 kA 0 = some ⟨kA, 1, 0, t5, 1⟩ := rfl
theorem a2 : applyTo f1 (rqOf 10 eA 10) kA 0 2 = (⟨8, 15, ⟨#[]⟩⟩, f2) := by
  unfold applyTo
  rw [l1]
  show ((nextOf (rqOf 10 eA 10) ⟨kA, 1, 0, t5, 1⟩ true 0 2).1, if (nextOf (rqOf 10 eA 10) ⟨kA, 1, 0, t5, 1⟩ true 0 2).2.2.1 = true then upd f1 kA (some (nextOf (rqOf 10 eA 10) ⟨kA, 1, 0, t5, 1⟩ true 0 2).2.1) else _) = _
  rw [n2]
  show ((⟨8, 15, ⟨#[]⟩⟩ : An), upd f1 kA (some ⟨kA, 1, 0, t15, 2⟩)) = _
  rfl
theorem g3 : founds f2 [kA] 0 = [⟨kA, 1, 0, t15, 2⟩] := rfl
theorem a4 : applyTo f2 (rqOf 4 eA 0) kA 0 4 = (say 3, f2) := rfl
theorem a5 : applyTo f2 (rqOf 9 eA 0) kA 0 5 = (say 6, f4) := rfl
theorem g6 : founds f4 [kA] 0 = [] := rfl
theorem a7 : applyTo f4 { rqOf 3 t5 0 with fl := 1, exp := 10 } kA 100 7 = (say 2, f5) := rfl
theorem g8 : founds f5 [kA] 109 = [⟨kA, 1, 110, t5, 7⟩] := rfl
theorem g9 : founds f5 [kA] 110 = [] := rfl
end Go.Proofs.YtepklobkppdliaaDoor.Md
end
section
namespace Go.Proofs.YtepklobkppdliaaDoor.Md
open Go.RowKit Go.Proofs.YtepklobkppdliaaDoorW.PrintWords Go.Proofs.YtepklobkppdliaaDoorW.PrintLast Go.Proofs.YtepklobkppdliaaDoorW.PrintMore Go.Proofs.YtepklobkppdliaaDoor.Lib Go.Proofs.YtepklobkppdliaaDoor.Open
theorem calls_at {P : Program} {fn : FuncId} {args : Array Value} {R : Ending → World → Prop} {W : World} (p : World → Prop) (hp : p W) (k : ∀ W', p W' → Calls P fn args W' R) : Calls P fn args W R := k W hp
theorem Pow.mod {W W' : World} (h : Pow W) {S : Nat → Prop} (hm : Mod S W W') (h0 : ¬ S 0) : Pow W' := by
  have hlt : 0 < W.heap.size := by
    unfold Pow Lib.TabIs World.var? at h
    rw [powGlobal] at h
    rcases Nat.lt_or_ge 0 W.heap.size with h' | h'
    · exact h'
    · rw [Option.bind_some, Array.getElem?_eq_none h'] at h
      simp at h
  unfold Pow Lib.TabIs World.var? at h ⊢
  rw [powGlobal] at h ⊢
  rw [Option.bind_some] at h ⊢
  rw [hm.block 0 hlt h0]
  exact h
theorem Pow.lt {W : World} (h : Pow W) : 0 < W.heap.size := by
  unfold Pow Lib.TabIs World.var? at h
  rw [powGlobal] at h
  rcases Nat.lt_or_ge 0 W.heap.size with h' | h'
  · exact h'
  · rw [Option.bind_some, Array.getElem?_eq_none h'] at h
    simp at h
/-- A row stays while a map is written. -/
theorem own_map {W W' : World} {B m s b n : Nat} {e : TypeId} {v : Value} {xs : List Value} {f : ByteArray → Option Ent} (h : W.ownsRow B e s v m xs) (hm : Mod (fun q => q = b) W W') (hp : Mp W b n f) : W'.ownsRow B e s v m xs :=
  hm.own h (fun q hq e' => by
    obtain ⟨c, hc⟩ := own_typed h q hq
    exact hp.ne hc e'.symm)
theorem blk_map {W W' : World} {b n x : Nat} {f : ByteArray → Option Ent} {cs : Array Value} {t : TypeId} (h : W.heap[x]? = some (.cells cs t (0, 0))) (hm : Mod (fun q => q = b) W W') (hp : Mp W b n f) : W'.heap[x]? = some (.cells cs t (0, 0)) :=
  hm.blk h (fun e => hp.ne h e.symm)

theorem ks_one {W : World} {ad : Addr} {k : ByteArray} (h : W.cell? ad = some (.string k)) (hk : k.size ≤ maxLen) : Ks W (some ad) [k] := by
  refine ⟨fun _ => ⟨ad, rfl, fun i x hx => ?_⟩, fun x hx => ?_⟩
  · cases i with
    | zero =>
      obtain rfl : k = x := by simpa using hx
      obtain ⟨q, o, i⟩ := ad
      exact h
    | succ i => simp at hx
  · obtain rfl : x = k := by simpa using hx
    exact hk
theorem ne_of_type {W : World} {g g' : Nat} {c c' : Array Value} {t t' : TypeId} (h : W.heap[g]? = some (.cells c t (0, 0))) (h' : W.heap[g']? = some (.cells c' t' (0, 0))) (hn : t ≠ t') : g ≠ g' := by
  rintro rfl
  rw [h] at h'
  injection h' with h'
  injection h' with _ h'
  exact hn h'
theorem row_ne {W : World} {B m sz g : Nat} {e t : TypeId} {v : Value} {xs : List Value} {c : Array Value} (h : W.ownsRow B e sz v m xs) (h' : W.heap[g]? = some (.cells c t (0, 0))) (hn : e ≠ t) : ∀ q, v.ownBlock = some q → ¬ q = g := fun q hq => by
  obtain ⟨c', hc⟩ := own_typed h q hq
  exact ne_of_type hc h' hn
theorem blks3 (w : World) (o1 o2 o3 : Obj) : (((w.alloc o1).alloc o2).alloc o3).heap[w.heap.size]? = some o1 ∧ (((w.alloc o1).alloc o2).alloc o3).heap[w.heap.size + 1]? = some o2 ∧ (((w.alloc o1).alloc o2).alloc o3).heap[w.heap.size + 1 + 1]? = some o3 ∧ Below w.heap.size w (((w.alloc o1).alloc o2).alloc o3) := by
  have s1 : (w.alloc o1).heap.size = w.heap.size + 1 := by simp
  have s2 : ((w.alloc o1).alloc o2).heap.size = w.heap.size + 1 + 1 := by simp
  refine ⟨?_, ?_, ?_, below_alloc (below_alloc (below_alloc (Below.refl _ _) _) _) _⟩
  · rw [heap_at, heap_at, heap_at, s1, s2, if_neg (by omega), if_neg (by omega), if_pos rfl]
  · rw [heap_at, heap_at, s1, s2, if_neg (by omega), if_pos rfl]
  · rw [heap_at, s2, if_pos rfl]

set_option maxHeartbeats 16000000 in
set_option maxRecDepth 100000 in
theorem runs_calls (w : World) (ht : Pow w) : Calls Tryd.prog 3 #[] w fun e w' => e = .returned (.bool true) ∧ Below w.heap.size w w' := by
  have HT := Aside0.mk ht
  have HB := Aside0.mk (Below.refl w.heap.size w)
  have H0 := Aside0.mk ht.lt
  clear ht
  go_enter Tryd.func3, Tryd.ntmps3
  go_wp2_with fail
  go_at_call 14
  refine (new_calls _).mono ?_
  rintro e_0 w_0 ⟨g, b, rfl, hmd, hg, hbg, hb⟩
  have HG := Aside0.mk (And.intro hbg H0.out)
  have HM := Aside0.mk hmd
  clear hmd hg hbg
  have HT_n := Aside0.mk (HT.out.below hb)
  have HB_n := Aside0.mk (HB.out.trans (hb.mono HB.out.size))
  clear HT; have HT := HT_n; clear HT_n
  clear HB; have HB := HB_n; clear HB_n
  clear hb
  go_wp2_with fail
  go_at_call 15
  refine (of_calls 3 kA t5 0 _).mono ?_
  rintro e_1 w_1 ⟨gs, rfl, hck, hge, hb⟩
  have CK := Aside0.mk (blk_cell hck 0)
  have KSB := Aside0.mk hck
  clear hck hge
  have HT_n := Aside0.mk (HT.out.below hb)
  have HB_n := Aside0.mk (HB.out.trans (hb.mono HB.out.size))
  have HM_n := Aside0.mk (HM.out.below hb)
  clear HT; have HT := HT_n; clear HT_n
  clear HB; have HB := HB_n; clear HB_n
  clear HM; have HM := HM_n; clear HM_n
  clear hb
  simp only [rqOf, Rq.c]
  go_wp2_with fail
  refine calls_at (fun W => Below w_1.heap.size w_1 W ∧ W.heap[w_1.heap.size]? = some (.cells (Rq.c { rqOf 3 t5 0 with fl := 1 } (.slice (some ⟨gs, 0, none⟩) 1 1)) 27 (0, 0))) (⟨below_alloc (Below.refl _ _) _, blk_new w_1 (.cells (Rq.c { rqOf 3 t5 0 with fl := 1 } (.slice (some ⟨gs, 0, none⟩) 1 1)) 27)⟩) (fun W hW => ?_)
  obtain ⟨hb, h2⟩ := hW
  have CKn := Aside0.mk (pw_cell_below hb CK.out)
  clear CK; have CK := CKn; clear CKn
  obtain ⟨g2, hg2⟩ : ∃ g2, g2 = w_1.heap.size := ⟨_, rfl⟩
  have HG2 := Aside0.mk (show 0 < g2 ∧ w.heap.size ≤ g2 by rw [hg2]; exact ⟨Nat.lt_of_lt_of_le H0.out HB.out.size, HB.out.size⟩)
  rw [← hg2] at h2 ⊢
  have HT_n := Aside0.mk (HT.out.below hb)
  have HB_n := Aside0.mk (HB.out.trans (hb.mono HB.out.size))
  have HM_n := Aside0.mk (HM.out.below hb)
  have KSB_n := Aside0.mk ((hb.block _ (blk_lt KSB.out)).trans KSB.out)
  clear HT; have HT := HT_n; clear HT_n
  clear HB; have HB := HB_n; clear HB_n
  clear HM; have HM := HM_n; clear HM_n
  clear KSB; have KSB := KSB_n; clear KSB_n
  clear hb
  clear hg2 H0
  have T2 := Aside0.mk (h2)
  clear h2
  go_at_call 16
  refine (apply_one g b _ f0 ({ rqOf 3 t5 0 with fl := 1 }) kA ⟨gs, 0, none⟩ 1 0 1 _ HM.out (by decide) (by decide) CK.out (by decide) HT.out (by decide) (by decide)).mono ?_
  rintro e_2 w_2 ⟨rfl, hmd, hm⟩
  rw [a1] at hmd ⊢
  simp only [An.c, ans, say]
  clear CK
  have HT_n := Aside0.mk (HT.out.mod hm (fun e => by have := HG.out; omega))
  have HB_n := Aside0.mk (hm.after HB.out HB.out.size (fun q hq => by rw [hq]; exact HG.out.1))
  have KSB_n := Aside0.mk (blk_map KSB.out hm HM.out.mp)
  have T2_n := Aside0.mk (blk_map T2.out hm HM.out.mp)
  clear HT; have HT := HT_n; clear HT_n
  clear HB; have HB := HB_n; clear HB_n
  clear KSB; have KSB := KSB_n; clear KSB_n
  clear T2; have T2 := T2_n; clear T2_n
  clear HM; have HM := Aside0.mk hmd; clear hmd hm
  go_wp2_with fail
  go_at_call 15
  refine (of_calls 10 kA eA 10 _).mono ?_
  rintro e_3 w_3 ⟨gk, rfl, hck, hge, hb⟩
  have CK := Aside0.mk (blk_cell hck 0)
  clear hck hge
  have HT_n := Aside0.mk (HT.out.below hb)
  have HB_n := Aside0.mk (HB.out.trans (hb.mono HB.out.size))
  have HM_n := Aside0.mk (HM.out.below hb)
  have KSB_n := Aside0.mk ((hb.block _ (blk_lt KSB.out)).trans KSB.out)
  have T2_n := Aside0.mk ((hb.block _ (blk_lt T2.out)).trans T2.out)
  clear HT; have HT := HT_n; clear HT_n
  clear HB; have HB := HB_n; clear HB_n
  clear HM; have HM := HM_n; clear HM_n
  clear KSB; have KSB := KSB_n; clear KSB_n
  clear T2; have T2 := T2_n; clear T2_n
  clear hb
  simp only [rqOf, Rq.c]
  go_wp2_with fail
  go_at_call 16
  refine (apply_one g b _ f1 (rqOf 10 eA 10) kA ⟨gk, 0, none⟩ 1 0 2 _ HM.out (by decide) (by decide) CK.out (by decide) HT.out (by decide) (by decide)).mono ?_
  rintro e_4 w_4 ⟨rfl, hmd, hm⟩
  rw [a2] at hmd ⊢
  simp only [An.c, ans]
  clear CK
  have HT_n := Aside0.mk (HT.out.mod hm (fun e => by have := HG.out; omega))
  have HB_n := Aside0.mk (hm.after HB.out HB.out.size (fun q hq => by rw [hq]; exact HG.out.1))
  have KSB_n := Aside0.mk (blk_map KSB.out hm HM.out.mp)
  have T2_n := Aside0.mk (blk_map T2.out hm HM.out.mp)
  clear HT; have HT := HT_n; clear HT_n
  clear HB; have HB := HB_n; clear HB_n
  clear KSB; have KSB := KSB_n; clear KSB_n
  clear T2; have T2 := T2_n; clear T2_n
  clear HM; have HM := Aside0.mk hmd; clear hmd hm
  go_wp2_with fail
  go_at_call 15
  refine (of_calls 1 kA eA 0 _).mono ?_
  rintro e_5 w_5 ⟨gk, rfl, hck, hge, hb⟩
  have CK := Aside0.mk (blk_cell hck 0)
  clear hck hge
  have HT_n := Aside0.mk (HT.out.below hb)
  have HB_n := Aside0.mk (HB.out.trans (hb.mono HB.out.size))
  have HM_n := Aside0.mk (HM.out.below hb)
  have KSB_n := Aside0.mk ((hb.block _ (blk_lt KSB.out)).trans KSB.out)
  have T2_n := Aside0.mk ((hb.block _ (blk_lt T2.out)).trans T2.out)
  clear HT; have HT := HT_n; clear HT_n
  clear HB; have HB := HB_n; clear HB_n
  clear HM; have HM := HM_n; clear HM_n
  clear KSB; have KSB := KSB_n; clear KSB_n
  clear T2; have T2 := T2_n; clear T2_n
  clear hb
  simp only [rqOf, Rq.c]
  go_wp2_with fail
  go_at_call 16
  have HKs := Aside0.mk (show Ks _ (some ⟨gk, 0, none⟩) [kA] from ks_one CK.out (by decide))
  refine (apply_get1 g b _ f2 (rqOf 1 eA 0) (some ⟨gk, 0, none⟩) 1 [kA] 0 3 _ HM.out HKs.out (by decide) rfl).mono ?_
  rintro e_6 w_6 ⟨v, rfl, hown, hb⟩
  rw [g3] at hown
  obtain ⟨Av, cv, rfl⟩ := own_slice hown
  have R5 := Aside0.mk hown
  clear hown HKs CK
  simp only [ansV]
  have HT_n := Aside0.mk (HT.out.below hb)
  have HB_n := Aside0.mk (HB.out.trans (hb.mono HB.out.size))
  have HM_n := Aside0.mk (HM.out.below hb)
  have KSB_n := Aside0.mk ((hb.block _ (blk_lt KSB.out)).trans KSB.out)
  have T2_n := Aside0.mk ((hb.block _ (blk_lt T2.out)).trans T2.out)
  clear HT; have HT := HT_n; clear HT_n
  clear HB; have HB := HB_n; clear HB_n
  clear HM; have HM := HM_n; clear HM_n
  clear KSB; have KSB := KSB_n; clear KSB_n
  clear T2; have T2 := T2_n; clear T2_n
  clear hb
  go_wp2_with fail
  refine calls_at (fun W => Below w_6.heap.size w_6 W ∧ W.heap[w_6.heap.size]? = some (.cells (ans 2 0 ⟨#[]⟩) 32 (0, 0)) ∧ W.heap[w_6.heap.size + 1]? = some (.cells (ans 8 15 ⟨#[]⟩) 32 (0, 0)) ∧ W.heap[w_6.heap.size + 1 + 1]? = some (.cells (ansV (.slice Av 1 cv) false) 32 (0, 0))) ((fun h => ⟨h.2.2.2, h.1, h.2.1, h.2.2.1⟩) (blks3 w_6 (.cells (ans 2 0 ⟨#[]⟩) 32) (.cells (ans 8 15 ⟨#[]⟩) 32) (.cells (ansV (.slice Av 1 cv) false) 32))) (fun W hW => ?_)
  obtain ⟨hb, hx1, hx2, hx3⟩ := hW
  obtain ⟨gT3, hgT3⟩ : ∃ gT3, gT3 = w_6.heap.size := ⟨_, rfl⟩
  obtain ⟨gT4, hgT4⟩ : ∃ gT4, gT4 = w_6.heap.size + 1 := ⟨_, rfl⟩
  obtain ⟨gT5, hgT5⟩ : ∃ gT5, gT5 = w_6.heap.size + 1 + 1 := ⟨_, rfl⟩
  rw [← hgT5] at hx3 ⊢
  rw [← hgT4] at hx2 ⊢
  rw [← hgT3] at hx1 ⊢
  have HT_n := Aside0.mk (HT.out.below hb)
  have HB_n := Aside0.mk (HB.out.trans (hb.mono HB.out.size))
  have HM_n := Aside0.mk (HM.out.below hb)
  have KSB_n := Aside0.mk ((hb.block _ (blk_lt KSB.out)).trans KSB.out)
  have T2_n := Aside0.mk ((hb.block _ (blk_lt T2.out)).trans T2.out)
  have R5_n := Aside0.mk (pw_own_below R5.out hb)
  clear HT; have HT := HT_n; clear HT_n
  clear HB; have HB := HB_n; clear HB_n
  clear HM; have HM := HM_n; clear HM_n
  clear KSB; have KSB := KSB_n; clear KSB_n
  clear T2; have T2 := T2_n; clear T2_n
  clear R5; have R5 := R5_n; clear R5_n
  clear hb
  have T3 := Aside0.mk (hx1)
  clear hx1 hgT3
  have T4 := Aside0.mk (hx2)
  clear hx2 hgT4
  have T5 := Aside0.mk (hx3)
  clear hx3 hgT5
  go_at_call 15
  refine (of_calls 4 kA eA 0 _).mono ?_
  rintro e_7 w_7 ⟨gk, rfl, hck, hge, hb⟩
  have CK := Aside0.mk (blk_cell hck 0)
  clear hck hge
  have HT_n := Aside0.mk (HT.out.below hb)
  have HB_n := Aside0.mk (HB.out.trans (hb.mono HB.out.size))
  have HM_n := Aside0.mk (HM.out.below hb)
  have KSB_n := Aside0.mk ((hb.block _ (blk_lt KSB.out)).trans KSB.out)
  have T2_n := Aside0.mk ((hb.block _ (blk_lt T2.out)).trans T2.out)
  have R5_n := Aside0.mk (pw_own_below R5.out hb)
  have T3_n := Aside0.mk ((hb.block _ (blk_lt T3.out)).trans T3.out)
  have T4_n := Aside0.mk ((hb.block _ (blk_lt T4.out)).trans T4.out)
  have T5_n := Aside0.mk ((hb.block _ (blk_lt T5.out)).trans T5.out)
  clear HT; have HT := HT_n; clear HT_n
  clear HB; have HB := HB_n; clear HB_n
  clear HM; have HM := HM_n; clear HM_n
  clear KSB; have KSB := KSB_n; clear KSB_n
  clear T2; have T2 := T2_n; clear T2_n
  clear R5; have R5 := R5_n; clear R5_n
  clear T3; have T3 := T3_n; clear T3_n
  clear T4; have T4 := T4_n; clear T4_n
  clear T5; have T5 := T5_n; clear T5_n
  clear hb
  simp only [rqOf, Rq.c]
  go_wp2_with fail
  go_at_call 16
  refine (apply_one g b _ f2 (rqOf 4 eA 0) kA ⟨gk, 0, none⟩ 1 0 4 _ HM.out (by decide) (by decide) CK.out (by decide) HT.out (by decide) (by decide)).mono ?_
  rintro e_8 w_8 ⟨rfl, hmd, hm⟩
  rw [a4] at hmd ⊢
  simp only [An.c, ans, say]
  clear CK
  have HT_n := Aside0.mk (HT.out.mod hm (fun e => by have := HG.out; omega))
  have HB_n := Aside0.mk (hm.after HB.out HB.out.size (fun q hq => by rw [hq]; exact HG.out.1))
  have KSB_n := Aside0.mk (blk_map KSB.out hm HM.out.mp)
  have T2_n := Aside0.mk (blk_map T2.out hm HM.out.mp)
  have R5_n := Aside0.mk (own_map R5.out hm HM.out.mp)
  have T3_n := Aside0.mk (blk_map T3.out hm HM.out.mp)
  have T4_n := Aside0.mk (blk_map T4.out hm HM.out.mp)
  have T5_n := Aside0.mk (blk_map T5.out hm HM.out.mp)
  clear HT; have HT := HT_n; clear HT_n
  clear HB; have HB := HB_n; clear HB_n
  clear KSB; have KSB := KSB_n; clear KSB_n
  clear T2; have T2 := T2_n; clear T2_n
  clear R5; have R5 := R5_n; clear R5_n
  clear T3; have T3 := T3_n; clear T3_n
  clear T4; have T4 := T4_n; clear T4_n
  clear T5; have T5 := T5_n; clear T5_n
  clear HM; have HM := Aside0.mk hmd; clear hmd hm
  go_wp2_with fail
  go_at_call 15
  refine (of_calls 9 kA eA 0 _).mono ?_
  rintro e_9 w_9 ⟨gk, rfl, hck, hge, hb⟩
  have CK := Aside0.mk (blk_cell hck 0)
  clear hck hge
  have HT_n := Aside0.mk (HT.out.below hb)
  have HB_n := Aside0.mk (HB.out.trans (hb.mono HB.out.size))
  have HM_n := Aside0.mk (HM.out.below hb)
  have KSB_n := Aside0.mk ((hb.block _ (blk_lt KSB.out)).trans KSB.out)
  have T2_n := Aside0.mk ((hb.block _ (blk_lt T2.out)).trans T2.out)
  have R5_n := Aside0.mk (pw_own_below R5.out hb)
  have T3_n := Aside0.mk ((hb.block _ (blk_lt T3.out)).trans T3.out)
  have T4_n := Aside0.mk ((hb.block _ (blk_lt T4.out)).trans T4.out)
  have T5_n := Aside0.mk ((hb.block _ (blk_lt T5.out)).trans T5.out)
  clear HT; have HT := HT_n; clear HT_n
  clear HB; have HB := HB_n; clear HB_n
  clear HM; have HM := HM_n; clear HM_n
  clear KSB; have KSB := KSB_n; clear KSB_n
  clear T2; have T2 := T2_n; clear T2_n
  clear R5; have R5 := R5_n; clear R5_n
  clear T3; have T3 := T3_n; clear T3_n
  clear T4; have T4 := T4_n; clear T4_n
  clear T5; have T5 := T5_n; clear T5_n
  clear hb
  simp only [rqOf, Rq.c]
  go_wp2_with fail
  go_at_call 16
  refine (apply_one g b _ f2 (rqOf 9 eA 0) kA ⟨gk, 0, none⟩ 1 0 5 _ HM.out (by decide) (by decide) CK.out (by decide) HT.out (by decide) (by decide)).mono ?_
  rintro e_10 w_10 ⟨rfl, hmd, hm⟩
  rw [a5] at hmd ⊢
  simp only [An.c, ans, say]
  clear CK
  have HT_n := Aside0.mk (HT.out.mod hm (fun e => by have := HG.out; omega))
  have HB_n := Aside0.mk (hm.after HB.out HB.out.size (fun q hq => by rw [hq]; exact HG.out.1))
  have KSB_n := Aside0.mk (blk_map KSB.out hm HM.out.mp)
  have T2_n := Aside0.mk (blk_map T2.out hm HM.out.mp)
  have R5_n := Aside0.mk (own_map R5.out hm HM.out.mp)
  have T3_n := Aside0.mk (blk_map T3.out hm HM.out.mp)
  have T4_n := Aside0.mk (blk_map T4.out hm HM.out.mp)
  have T5_n := Aside0.mk (blk_map T5.out hm HM.out.mp)
  clear HT; have HT := HT_n; clear HT_n
  clear HB; have HB := HB_n; clear HB_n
  clear KSB; have KSB := KSB_n; clear KSB_n
  clear T2; have T2 := T2_n; clear T2_n
  clear R5; have R5 := R5_n; clear R5_n
  clear T3; have T3 := T3_n; clear T3_n
  clear T4; have T4 := T4_n; clear T4_n
  clear T5; have T5 := T5_n; clear T5_n
  clear HM; have HM := Aside0.mk hmd; clear hmd hm
  go_wp2_with fail
  go_at_call 15
  refine (of_calls 1 kA eA 0 _).mono ?_
  rintro e_11 w_11 ⟨gk, rfl, hck, hge, hb⟩
  have CK := Aside0.mk (blk_cell hck 0)
  clear hck hge
  have HT_n := Aside0.mk (HT.out.below hb)
  have HB_n := Aside0.mk (HB.out.trans (hb.mono HB.out.size))
  have HM_n := Aside0.mk (HM.out.below hb)
  have KSB_n := Aside0.mk ((hb.block _ (blk_lt KSB.out)).trans KSB.out)
  have T2_n := Aside0.mk ((hb.block _ (blk_lt T2.out)).trans T2.out)
  have R5_n := Aside0.mk (pw_own_below R5.out hb)
  have T3_n := Aside0.mk ((hb.block _ (blk_lt T3.out)).trans T3.out)
  have T4_n := Aside0.mk ((hb.block _ (blk_lt T4.out)).trans T4.out)
  have T5_n := Aside0.mk ((hb.block _ (blk_lt T5.out)).trans T5.out)
  clear HT; have HT := HT_n; clear HT_n
  clear HB; have HB := HB_n; clear HB_n
  clear HM; have HM := HM_n; clear HM_n
  clear KSB; have KSB := KSB_n; clear KSB_n
  clear T2; have T2 := T2_n; clear T2_n
  clear R5; have R5 := R5_n; clear R5_n
  clear T3; have T3 := T3_n; clear T3_n
  clear T4; have T4 := T4_n; clear T4_n
  clear T5; have T5 := T5_n; clear T5_n
  clear hb
  simp only [rqOf, Rq.c]
  go_wp2_with fail
  go_at_call 16
  have HKs := Aside0.mk (show Ks _ (some ⟨gk, 0, none⟩) [kA] from ks_one CK.out (by decide))
  refine (apply_get1 g b _ f4 (rqOf 1 eA 0) (some ⟨gk, 0, none⟩) 1 [kA] 0 6 _ HM.out HKs.out (by decide) rfl).mono ?_
  rintro e_12 w_12 ⟨u, rfl, hown, hb⟩
  rw [g6] at hown
  obtain ⟨Au, cu, rfl⟩ := own_slice hown
  have R8 := Aside0.mk hown
  clear hown HKs CK
  simp only [ansV]
  have HT_n := Aside0.mk (HT.out.below hb)
  have HB_n := Aside0.mk (HB.out.trans (hb.mono HB.out.size))
  have HM_n := Aside0.mk (HM.out.below hb)
  have KSB_n := Aside0.mk ((hb.block _ (blk_lt KSB.out)).trans KSB.out)
  have T2_n := Aside0.mk ((hb.block _ (blk_lt T2.out)).trans T2.out)
  have R5_n := Aside0.mk (pw_own_below R5.out hb)
  have T3_n := Aside0.mk ((hb.block _ (blk_lt T3.out)).trans T3.out)
  have T4_n := Aside0.mk ((hb.block _ (blk_lt T4.out)).trans T4.out)
  have T5_n := Aside0.mk ((hb.block _ (blk_lt T5.out)).trans T5.out)
  clear HT; have HT := HT_n; clear HT_n
  clear HB; have HB := HB_n; clear HB_n
  clear HM; have HM := HM_n; clear HM_n
  clear KSB; have KSB := KSB_n; clear KSB_n
  clear T2; have T2 := T2_n; clear T2_n
  clear R5; have R5 := R5_n; clear R5_n
  clear T3; have T3 := T3_n; clear T3_n
  clear T4; have T4 := T4_n; clear T4_n
  clear T5; have T5 := T5_n; clear T5_n
  clear hb
  have c23 : ∀ o1 o2 o3, (((w_12.alloc o1).alloc o2).alloc o3).cell? ⟨g2, 3, none⟩ = some (.int .i64 0) := fun o1 o2 o3 => blk_cell (blk_alloc (blk_alloc (blk_alloc T2.out o1) o2) o3) 3
  have f23 : ∀ o1 o2 o3, (((w_12.alloc o1).alloc o2).alloc o3).frozen? ⟨g2, 3, none⟩ = false := fun o1 o2 o3 => blk_frozen (blk_alloc (blk_alloc (blk_alloc T2.out o1) o2) o3) 3
  go_wp2_with (refine gate_ (.load 27 (.tmp 2)) rfl ?_; refine ev_load_row (.load 27 (.tmp 2)) rfl rfl 27 (.tmp 2) rfl g2 rfl 27 (Rq.c { rqOf 3 t5 0 with fl := 1, exp := 10 } (.slice (some ⟨gs, 0, none⟩) 1 1)) _ (show ((((w_12.alloc (.cells (ans 3 0 ⟨#[]⟩) 32)).alloc (.cells (ans 6 0 ⟨#[]⟩) 32)).alloc (.cells (ansV (.slice Au 0 cu) false) 32)).setCell ⟨g2, 3, none⟩ (.int .i64 10)).heap[g2]? = some (.cells (Rq.c { rqOf 3 t5 0 with fl := 1, exp := 10 } (.slice (some ⟨gs, 0, none⟩) 1 1)) 27 (0, 0)) from blk_put (blk_alloc (blk_alloc (blk_alloc T2.out _) _) _) 3 _ rfl) Tryd.underlying27 rfl (by kernel_rfl) ?_)
  have hlt2 := blk_lt T2.out
  have hM3 := Mod.setCell (p := ⟨g2, 3, none⟩) (Mod.refl (fun q => q = g2) (((w_12.alloc (.cells (ans 3 0 ⟨#[]⟩) 32)).alloc (.cells (ans 6 0 ⟨#[]⟩) 32)).alloc (.cells (ansV (.slice Au 0 cu) false) 32))) (.inl rfl) (.int .i64 10)
  obtain ⟨y1, y2, y3, y4⟩ := blks3 w_12 (.cells (ans 3 0 ⟨#[]⟩) 32) (.cells (ans 6 0 ⟨#[]⟩) 32) (.cells (ansV (.slice Au 0 cu) false) 32)
  refine calls_at (fun W => Mod (fun q => q = g2) w_12 W ∧ W.heap[w_12.heap.size]? = some (.cells (ans 3 0 ⟨#[]⟩) 32 (0, 0)) ∧ W.heap[w_12.heap.size + 1]? = some (.cells (ans 6 0 ⟨#[]⟩) 32 (0, 0)) ∧ W.heap[w_12.heap.size + 1 + 1]? = some (.cells (ansV (.slice Au 0 cu) false) 32 (0, 0)) ∧ W.heap[g2]? = some (.cells (Rq.c { rqOf 3 t5 0 with fl := 1, exp := 10 } (.slice (some ⟨gs, 0, none⟩) 1 1)) 27 (0, 0))) (⟨(Mod.of_below y4 _).trans hM3 (fun q hq => .inl hq), hM3.blk y1 (by omega), hM3.blk y2 (by omega), hM3.blk y3 (by omega), blk_put (blk_alloc (blk_alloc (blk_alloc T2.out _) _) _) 3 _ rfl⟩) (fun W hW => ?_)
  obtain ⟨hm, hx1, hx2, hx3, h2⟩ := hW
  obtain ⟨gT6, hgT6⟩ : ∃ gT6, gT6 = w_12.heap.size := ⟨_, rfl⟩
  obtain ⟨gT7, hgT7⟩ : ∃ gT7, gT7 = w_12.heap.size + 1 := ⟨_, rfl⟩
  obtain ⟨gT8, hgT8⟩ : ∃ gT8, gT8 = w_12.heap.size + 1 + 1 := ⟨_, rfl⟩
  rw [← hgT8] at hx3 ⊢
  rw [← hgT7] at hx2 ⊢
  rw [← hgT6] at hx1 ⊢
  clear hM3 y1 y2 y3 y4 hlt2 c23 f23
  have KSB_n := Aside0.mk (hm.blk KSB.out (ne_of_type KSB.out T2.out (by decide)))
  have T3_n := Aside0.mk (hm.blk T3.out (ne_of_type T3.out T2.out (by decide)))
  have T4_n := Aside0.mk (hm.blk T4.out (ne_of_type T4.out T2.out (by decide)))
  have T5_n := Aside0.mk (hm.blk T5.out (ne_of_type T5.out T2.out (by decide)))
  have R5_n := Aside0.mk (hm.own R5.out (row_ne R5.out T2.out (by decide)))
  have R8_n := Aside0.mk (hm.own R8.out (row_ne R8.out T2.out (by decide)))
  have HM_n := Aside0.mk (HM.out.mod hm (ne_of_type HM.out.blk T2.out (by decide)) (HM.out.mp.ne T2.out))
  have HT_n := Aside0.mk (HT.out.mod hm (by have := HG2.out; omega))
  have HB_n := Aside0.mk (hm.after HB.out HB.out.size (fun q hq => by rw [hq]; exact HG2.out.2))
  clear T2 hm
  clear KSB; have KSB := KSB_n; clear KSB_n
  clear T3; have T3 := T3_n; clear T3_n
  clear T4; have T4 := T4_n; clear T4_n
  clear T5; have T5 := T5_n; clear T5_n
  clear R5; have R5 := R5_n; clear R5_n
  clear R8; have R8 := R8_n; clear R8_n
  clear HM; have HM := HM_n; clear HM_n
  clear HT; have HT := HT_n; clear HT_n
  clear HB; have HB := HB_n; clear HB_n
  have T6 := Aside0.mk (hx1)
  clear hx1 hgT6
  have T7 := Aside0.mk (hx2)
  clear hx2 hgT7
  have T8 := Aside0.mk (hx3)
  clear hx3 hgT8
  clear h2
  have CK := Aside0.mk (blk_cell KSB.out 0)
  go_at_call 16
  refine (apply_one g b _ f4 ({ rqOf 3 t5 0 with fl := 1, exp := 10 }) kA ⟨gs, 0, none⟩ 1 100 7 _ HM.out (by decide) (by decide) CK.out (by decide) HT.out (by decide) (by decide)).mono ?_
  rintro e_13 w_13 ⟨rfl, hmd, hm⟩
  rw [a7] at hmd ⊢
  simp only [An.c, ans, say]
  clear CK
  have HT_n := Aside0.mk (HT.out.mod hm (fun e => by have := HG.out; omega))
  have HB_n := Aside0.mk (hm.after HB.out HB.out.size (fun q hq => by rw [hq]; exact HG.out.1))
  have KSB_n := Aside0.mk (blk_map KSB.out hm HM.out.mp)
  have R5_n := Aside0.mk (own_map R5.out hm HM.out.mp)
  have T3_n := Aside0.mk (blk_map T3.out hm HM.out.mp)
  have T4_n := Aside0.mk (blk_map T4.out hm HM.out.mp)
  have T5_n := Aside0.mk (blk_map T5.out hm HM.out.mp)
  have R8_n := Aside0.mk (own_map R8.out hm HM.out.mp)
  have T6_n := Aside0.mk (blk_map T6.out hm HM.out.mp)
  have T7_n := Aside0.mk (blk_map T7.out hm HM.out.mp)
  have T8_n := Aside0.mk (blk_map T8.out hm HM.out.mp)
  clear HT; have HT := HT_n; clear HT_n
  clear HB; have HB := HB_n; clear HB_n
  clear KSB; have KSB := KSB_n; clear KSB_n
  clear R5; have R5 := R5_n; clear R5_n
  clear T3; have T3 := T3_n; clear T3_n
  clear T4; have T4 := T4_n; clear T4_n
  clear T5; have T5 := T5_n; clear T5_n
  clear R8; have R8 := R8_n; clear R8_n
  clear T6; have T6 := T6_n; clear T6_n
  clear T7; have T7 := T7_n; clear T7_n
  clear T8; have T8 := T8_n; clear T8_n
  clear HM; have HM := Aside0.mk hmd; clear hmd hm
  go_wp2_with fail
  go_at_call 15
  refine (of_calls 1 kA eA 0 _).mono ?_
  rintro e_14 w_14 ⟨gk, rfl, hck, hge, hb⟩
  have CK := Aside0.mk (blk_cell hck 0)
  clear hck hge
  have HT_n := Aside0.mk (HT.out.below hb)
  have HB_n := Aside0.mk (HB.out.trans (hb.mono HB.out.size))
  have HM_n := Aside0.mk (HM.out.below hb)
  have KSB_n := Aside0.mk ((hb.block _ (blk_lt KSB.out)).trans KSB.out)
  have R5_n := Aside0.mk (pw_own_below R5.out hb)
  have T3_n := Aside0.mk ((hb.block _ (blk_lt T3.out)).trans T3.out)
  have T4_n := Aside0.mk ((hb.block _ (blk_lt T4.out)).trans T4.out)
  have T5_n := Aside0.mk ((hb.block _ (blk_lt T5.out)).trans T5.out)
  have R8_n := Aside0.mk (pw_own_below R8.out hb)
  have T6_n := Aside0.mk ((hb.block _ (blk_lt T6.out)).trans T6.out)
  have T7_n := Aside0.mk ((hb.block _ (blk_lt T7.out)).trans T7.out)
  have T8_n := Aside0.mk ((hb.block _ (blk_lt T8.out)).trans T8.out)
  clear HT; have HT := HT_n; clear HT_n
  clear HB; have HB := HB_n; clear HB_n
  clear HM; have HM := HM_n; clear HM_n
  clear KSB; have KSB := KSB_n; clear KSB_n
  clear R5; have R5 := R5_n; clear R5_n
  clear T3; have T3 := T3_n; clear T3_n
  clear T4; have T4 := T4_n; clear T4_n
  clear T5; have T5 := T5_n; clear T5_n
  clear R8; have R8 := R8_n; clear R8_n
  clear T6; have T6 := T6_n; clear T6_n
  clear T7; have T7 := T7_n; clear T7_n
  clear T8; have T8 := T8_n; clear T8_n
  clear hb
  simp only [rqOf, Rq.c]
  go_wp2_with fail
  go_at_call 16
  have HKs := Aside0.mk (show Ks _ (some ⟨gk, 0, none⟩) [kA] from ks_one CK.out (by decide))
  refine (apply_get1 g b _ f5 (rqOf 1 eA 0) (some ⟨gk, 0, none⟩) 1 [kA] 109 8 _ HM.out HKs.out (by decide) rfl).mono ?_
  rintro e_15 w_15 ⟨p, rfl, hown, hb⟩
  rw [g8] at hown
  obtain ⟨Ap, cp, rfl⟩ := own_slice hown
  have R9 := Aside0.mk hown
  clear hown HKs CK
  simp only [ansV]
  have HT_n := Aside0.mk (HT.out.below hb)
  have HB_n := Aside0.mk (HB.out.trans (hb.mono HB.out.size))
  have HM_n := Aside0.mk (HM.out.below hb)
  have KSB_n := Aside0.mk ((hb.block _ (blk_lt KSB.out)).trans KSB.out)
  have R5_n := Aside0.mk (pw_own_below R5.out hb)
  have T3_n := Aside0.mk ((hb.block _ (blk_lt T3.out)).trans T3.out)
  have T4_n := Aside0.mk ((hb.block _ (blk_lt T4.out)).trans T4.out)
  have T5_n := Aside0.mk ((hb.block _ (blk_lt T5.out)).trans T5.out)
  have R8_n := Aside0.mk (pw_own_below R8.out hb)
  have T6_n := Aside0.mk ((hb.block _ (blk_lt T6.out)).trans T6.out)
  have T7_n := Aside0.mk ((hb.block _ (blk_lt T7.out)).trans T7.out)
  have T8_n := Aside0.mk ((hb.block _ (blk_lt T8.out)).trans T8.out)
  clear HT; have HT := HT_n; clear HT_n
  clear HB; have HB := HB_n; clear HB_n
  clear HM; have HM := HM_n; clear HM_n
  clear KSB; have KSB := KSB_n; clear KSB_n
  clear R5; have R5 := R5_n; clear R5_n
  clear T3; have T3 := T3_n; clear T3_n
  clear T4; have T4 := T4_n; clear T4_n
  clear T5; have T5 := T5_n; clear T5_n
  clear R8; have R8 := R8_n; clear R8_n
  clear T6; have T6 := T6_n; clear T6_n
  clear T7; have T7 := T7_n; clear T7_n
  clear T8; have T8 := T8_n; clear T8_n
  clear hb
  go_wp2_with fail
  go_at_call 15
  refine (of_calls 1 kA eA 0 _).mono ?_
  rintro e_16 w_16 ⟨gk, rfl, hck, hge, hb⟩
  have CK := Aside0.mk (blk_cell hck 0)
  clear hck hge
  have HT_n := Aside0.mk (HT.out.below hb)
  have HB_n := Aside0.mk (HB.out.trans (hb.mono HB.out.size))
  have HM_n := Aside0.mk (HM.out.below hb)
  have KSB_n := Aside0.mk ((hb.block _ (blk_lt KSB.out)).trans KSB.out)
  have R5_n := Aside0.mk (pw_own_below R5.out hb)
  have T3_n := Aside0.mk ((hb.block _ (blk_lt T3.out)).trans T3.out)
  have T4_n := Aside0.mk ((hb.block _ (blk_lt T4.out)).trans T4.out)
  have T5_n := Aside0.mk ((hb.block _ (blk_lt T5.out)).trans T5.out)
  have R8_n := Aside0.mk (pw_own_below R8.out hb)
  have T6_n := Aside0.mk ((hb.block _ (blk_lt T6.out)).trans T6.out)
  have T7_n := Aside0.mk ((hb.block _ (blk_lt T7.out)).trans T7.out)
  have T8_n := Aside0.mk ((hb.block _ (blk_lt T8.out)).trans T8.out)
  have R9_n := Aside0.mk (pw_own_below R9.out hb)
  clear HT; have HT := HT_n; clear HT_n
  clear HB; have HB := HB_n; clear HB_n
  clear HM; have HM := HM_n; clear HM_n
  clear KSB; have KSB := KSB_n; clear KSB_n
  clear R5; have R5 := R5_n; clear R5_n
  clear T3; have T3 := T3_n; clear T3_n
  clear T4; have T4 := T4_n; clear T4_n
  clear T5; have T5 := T5_n; clear T5_n
  clear R8; have R8 := R8_n; clear R8_n
  clear T6; have T6 := T6_n; clear T6_n
  clear T7; have T7 := T7_n; clear T7_n
  clear T8; have T8 := T8_n; clear T8_n
  clear R9; have R9 := R9_n; clear R9_n
  clear hb
  simp only [rqOf, Rq.c]
  go_wp2_with fail
  go_at_call 16
  have HKs := Aside0.mk (show Ks _ (some ⟨gk, 0, none⟩) [kA] from ks_one CK.out (by decide))
  refine (apply_get1 g b _ f5 (rqOf 1 eA 0) (some ⟨gk, 0, none⟩) 1 [kA] 110 9 _ HM.out HKs.out (by decide) rfl).mono ?_
  rintro e_17 w_17 ⟨q, rfl, hown, hb⟩
  rw [g9] at hown
  obtain ⟨Aq, cq, rfl⟩ := own_slice hown
  have R10 := Aside0.mk hown
  clear hown HKs CK
  simp only [ansV]
  have HT_n := Aside0.mk (HT.out.below hb)
  have HB_n := Aside0.mk (HB.out.trans (hb.mono HB.out.size))
  have HM_n := Aside0.mk (HM.out.below hb)
  have KSB_n := Aside0.mk ((hb.block _ (blk_lt KSB.out)).trans KSB.out)
  have R5_n := Aside0.mk (pw_own_below R5.out hb)
  have T3_n := Aside0.mk ((hb.block _ (blk_lt T3.out)).trans T3.out)
  have T4_n := Aside0.mk ((hb.block _ (blk_lt T4.out)).trans T4.out)
  have T5_n := Aside0.mk ((hb.block _ (blk_lt T5.out)).trans T5.out)
  have R8_n := Aside0.mk (pw_own_below R8.out hb)
  have T6_n := Aside0.mk ((hb.block _ (blk_lt T6.out)).trans T6.out)
  have T7_n := Aside0.mk ((hb.block _ (blk_lt T7.out)).trans T7.out)
  have T8_n := Aside0.mk ((hb.block _ (blk_lt T8.out)).trans T8.out)
  have R9_n := Aside0.mk (pw_own_below R9.out hb)
  clear HT; have HT := HT_n; clear HT_n
  clear HB; have HB := HB_n; clear HB_n
  clear HM; have HM := HM_n; clear HM_n
  clear KSB; have KSB := KSB_n; clear KSB_n
  clear R5; have R5 := R5_n; clear R5_n
  clear T3; have T3 := T3_n; clear T3_n
  clear T4; have T4 := T4_n; clear T4_n
  clear T5; have T5 := T5_n; clear T5_n
  clear R8; have R8 := R8_n; clear R8_n
  clear T6; have T6 := T6_n; clear T6_n
  clear T7; have T7 := T7_n; clear T7_n
  clear T8; have T8 := T8_n; clear T8_n
  clear R9; have R9 := R9_n; clear R9_n
  clear hb
  have h5 := R5.out
  obtain ⟨go, rfl⟩ : ∃ go, Av = some ⟨go, 0, none⟩ := by
    rcases h5.2 with ⟨e, hz⟩ | ⟨go, cap, cur, e, _⟩
    · simp at hz
    · injection e with e1
      exact ⟨go, e1⟩
  have k0 : ∀ o1 o2, ((w_17.alloc o1).alloc o2).cell? ⟨gT3, 0, none⟩ = some (.int .i64 2) := fun o1 o2 => blk_cell (blk_alloc (blk_alloc T3.out o1) o2) 0
  have k1 : ∀ o1 o2, ((w_17.alloc o1).alloc o2).cell? ⟨gT4, 3, none⟩ = some (.int .u64 15) := fun o1 o2 => blk_cell (blk_alloc (blk_alloc T4.out o1) o2) 3
  have k2 : ∀ o1 o2, ((w_17.alloc o1).alloc o2).cell? ⟨gT5, 1, none⟩ = some (.slice (some ⟨go, 0, none⟩) 1 cv) := fun o1 o2 => blk_cell (blk_alloc (blk_alloc T5.out o1) o2) 1
  have k3 : ∀ o1 o2, ((w_17.alloc o1).alloc o2).cell? ⟨gT6, 0, none⟩ = some (.int .i64 3) := fun o1 o2 => blk_cell (blk_alloc (blk_alloc T6.out o1) o2) 0
  have k4 : ∀ o1 o2, ((w_17.alloc o1).alloc o2).cell? ⟨gT7, 0, none⟩ = some (.int .i64 6) := fun o1 o2 => blk_cell (blk_alloc (blk_alloc T7.out o1) o2) 0
  have k5 : ∀ o1 o2, ((w_17.alloc o1).alloc o2).cell? ⟨gT8, 1, none⟩ = some (.slice Au 0 cu) := fun o1 o2 => blk_cell (blk_alloc (blk_alloc T8.out o1) o2) 1
  have e0 : ∀ o1 o2, ((w_17.alloc o1).alloc o2).cell? ⟨go, 0, none⟩ = some (.string ⟨#[97]⟩) := fun o1 o2 => (own_alloc (own_alloc h5 o1) o2).cellAt 0 (by simp)
  have e1 : ∀ o1 o2, ((w_17.alloc o1).alloc o2).cell? ⟨go, 1, none⟩ = some (.int .i64 1) := fun o1 o2 => (own_alloc (own_alloc h5 o1) o2).cellAt 1 (by simp)
  have e2 : ∀ o1 o2, ((w_17.alloc o1).alloc o2).cell? ⟨go, 2, none⟩ = some (.string ⟨#[49, 53]⟩) := fun o1 o2 => (own_alloc (own_alloc h5 o1) o2).cellAt 2 (by simp)
  have e3 : ∀ o1 o2, ((w_17.alloc o1).alloc o2).cell? ⟨go, 3, none⟩ = some (.int .i64 2) := fun o1 o2 => (own_alloc (own_alloc h5 o1) o2).cellAt 3 (by simp)
  clear h5
  go_wp2
  go_ret
  exact ⟨rfl, below_alloc (below_alloc HB.out _) _⟩
end Go.Proofs.YtepklobkppdliaaDoor.Md
end
section
namespace Go.Proofs.YtepklobkppdliaaDoor.Md
open Go.RowKit Go.Proofs.YtepklobkppdliaaDoorW.PrintWords Go.Proofs.YtepklobkppdliaaDoorW.PrintLast Go.Proofs.YtepklobkppdliaaDoorW.PrintMore Go.Proofs.YtepklobkppdliaaDoor.Lib Go.Proofs.YtepklobkppdliaaDoor.Open Go.Proofs.YtepklobkppdliaaDoor.Open
/-- A model of one key, of no flags and no deadline. -/
def Fk (k d : ByteArray) (fl c : Int) : ByteArray → Option Ent := upd f0 k (some ⟨k, fl, 0, d, c⟩)
theorem Fk.here (k d : ByteArray) (fl c : Int) : Fk k d fl c k = some ⟨k, fl, 0, d, c⟩ := by
  unfold Fk upd
  rw [if_pos rfl]
theorem upd_upd (f : ByteArray → Option Ent) (k : ByteArray) (x y : Option Ent) : upd (upd f k x) k y = upd f k y := by
  funext j
  unfold upd
  split <;> rfl
theorem Fk.upd (k d d' : ByteArray) (fl c c' : Int) : upd (Fk k d fl c) k (some ⟨k, fl, 0, d', c'⟩) = Fk k d' fl c' := upd_upd _ _ _ _
theorem Fk.live (k d : ByteArray) (fl c now : Int) : liveOf (Fk k d fl c) k now = some ⟨k, fl, 0, d, c⟩ := by
  unfold liveOf
  rw [Fk.here]
  rfl
theorem Fk.founds (k d : ByteArray) (fl c now : Int) : founds (Fk k d fl c) [k] now = [⟨k, fl, 0, d, c⟩] := by
  unfold Md.founds
  rw [List.filterMap_cons, Fk.live]
  rfl
/-- A world behind W in which all that W had is as it was. -/
structure Wd (W : World) where
  w : World
  h : Below W.heap.size W w
instance Wd.here {W : World} : Nonempty (Wd W) := ⟨⟨W, Below.refl _ _⟩⟩
theorem Wd.cell {W : World} {p : Addr} {v : Value} (h : W.cell? p = some v) : ∀ n : Wd W, n.w.cell? p = some v := fun n => pw_cell_below n.h h
theorem Wd.on {W w' : World} (n : Wd W) (h : Below n.w.heap.size n.w w') : ∃ m : Wd W, w' = m.w := ⟨⟨w', n.h.trans (h.mono n.h.size)⟩, rfl⟩
theorem Arg.far {α : Type} {cl : α → List Value} {w W : World} {A : Option Addr} {n : Nat} {xs : List α} (h : Arg cl w A n xs) (hb : Below w.heap.size w W) (i : Nat) (x : α) (v : Value) (hs : ∀ x, (cl x).length = 1) (hx : xs[i]? = some x) (hv : (cl x)[0]? = some v) : ∃ b o, A = some ⟨b, o, none⟩ ∧ W.cell? ⟨b, o + i, none⟩ = some v := by
  obtain ⟨b, o, e, hr⟩ := h.at_ hs i x hx
  refine ⟨b, o, e, pw_cell_below hb ?_⟩
  have := hr 0 v hv
  rwa [Nat.mul_one, Nat.add_zero] at this
end Go.Proofs.YtepklobkppdliaaDoor.Md
end

/- The model: ModelAdds answers true. -/
import Derived.Test.YtepklobkppdliaaDoorMd21
namespace Go.Proofs.YtepklobkppdliaaDoor.Md
open Go.RowKit Go.Proofs.YtepklobkppdliaaDoorW.PrintWords Go.Proofs.YtepklobkppdliaaDoorW.PrintLast Go.Proofs.YtepklobkppdliaaDoorW.PrintMore Go.Proofs.YtepklobkppdliaaDoor.Lib Go.Proofs.YtepklobkppdliaaDoor.Open
theorem add_yes (k d : ByteArray) (now ver : Int) : applyTo f0 (rqOf 4 d 0) k now ver = (say 2, Fk k d 0 ver) := rfl
theorem rep_no (k d : ByteArray) (now ver : Int) : applyTo f0 (rqOf 5 d 0) k now ver = (say 3, f0) := rfl
theorem add_no (k d p : ByteArray) (fl c now ver : Int) : applyTo (Fk k d fl c) (rqOf 4 p 0) k now ver = (say 3, Fk k d fl c) := to_same (e := ⟨k, fl, 0, d, c⟩) rfl
theorem rep_yes (k d p : ByteArray) (fl c now ver : Int) : applyTo (Fk k d fl c) (rqOf 5 p 0) k now ver = (say 2, Fk k p 0 ver) := by
  unfold applyTo
  rw [Fk.live, Option.getD_some, Option.isSome_some]
  exact congrArg (Prod.mk _) (upd_upd _ _ _ _)
theorem del_yes (k d : ByteArray) (fl c now ver : Int) : applyTo (Fk k d fl c) (rqOf 9 eA 0) k now ver = (say 6, upd (Fk k d fl c) k none) := by
  unfold applyTo
  rw [Fk.live, Option.getD_some, Option.isSome_some]
  rfl
theorem add_del (k d p : ByteArray) (fl c now ver : Int) : applyTo (upd (Fk k d fl c) k none) (rqOf 4 p 0) k now ver = (say 2, Fk k p 0 ver) := by
  have hl : liveOf (upd (Fk k d fl c) k none) k now = none := by
    unfold liveOf upd
    rw [if_pos rfl]
  unfold applyTo
  rw [hl, Option.getD_none, Option.isSome_none]
  exact congrArg (Prod.mk _) ((upd_upd _ _ _ _).trans (upd_upd _ _ _ _))
theorem blks2 (w : World) (o1 o2 : Obj) : Below w.heap.size w ((w.alloc o1).alloc o2) ∧ ((w.alloc o1).alloc o2).heap[w.heap.size]? = some o1 ∧ ((w.alloc o1).alloc o2).heap[w.heap.size + 1]? = some o2 := by
  have s1 : (w.alloc o1).heap.size = w.heap.size + 1 := by simp
  refine ⟨below_alloc (below_alloc (Below.refl _ _) _) _, ?_, ?_⟩
  · rw [heap_at, heap_at, s1, if_neg (by omega), if_pos rfl]
  · rw [heap_at, s1, if_pos rfl]
set_option maxHeartbeats 16000000 in
set_option maxRecDepth 100000 in
theorem adds_long (x y : ByteArray) (hd : Bool) (h1 : (x.size : Int) ≤ 140737488355328) (h2 : (y.size : Int) ≤ 140737488355328) (hs : 300 < x.size + y.size) (w : World) (ht : Pow w) :
    Calls Tryd.prog 9 #[.string x, .string y, .bool hd] w fun e w' => e = .returned (.bool true) ∧ Below w.heap.size w w' := by
  have r0 : decide ((300 : Int) < (x.size : Int) + (y.size : Int)) = true := decide_eq_true (by omega)
  have r1 : (300 : Int) < (x.size : Int) + (y.size : Int) := by omega
  have HT := Aside0.mk ht
  clear ht
  go_enter Tryd.func9, Tryd.ntmps9
  go_wp2_with fail
  go_at_call 3
  refine (runs_calls _ HT.out).mono ?_
  rintro e_1 w_1 ⟨rfl, hb⟩
  have HBm := Aside0.mk hb
  clear hb
  go_wp2
  go_ret
  exact ⟨rfl, HBm.out⟩
set_option maxHeartbeats 16000000 in
set_option maxRecDepth 100000 in
theorem adds_free (x y : ByteArray) (h1 : (x.size : Int) ≤ 140737488355328) (h2 : (y.size : Int) ≤ 140737488355328) (hs : ¬ 300 < x.size + y.size) (w : World) (ht : Pow w) :
    Calls Tryd.prog 9 #[.string x, .string y, .bool false] w fun e w' => e = .returned (.bool true) ∧ Below w.heap.size w w' := by
  have r0 : decide ((300 : Int) < (x.size : Int) + (y.size : Int)) = false := decide_eq_false (by omega)
  have r1 : ¬ (300 : Int) < (x.size : Int) + (y.size : Int) := by omega
  have HZ := Aside0.mk (show x.size ≤ 140737488355328 ∧ y.size ≤ 140737488355328 by omega)
  have HT := Aside0.mk ht
  have HB := Aside0.mk (Below.refl w.heap.size w)
  have H0 := Aside0.mk ht.lt
  clear ht
  go_enter Tryd.func9, Tryd.ntmps9
  go_wp2_with fail
  go_at_call 14
  refine (new_calls _).mono ?_
  rintro e_0 w_0 ⟨g, b, rfl, hmd, hg, hbg, hb⟩
  have HG := Aside0.mk (And.intro hbg H0.out)
  have HM := Aside0.mk hmd
  clear hmd hg hbg H0
  have HD := Aside0.mk (show b = b from rfl)
  have HT_n := Aside0.mk (HT.out.below hb)
  have HB_n := Aside0.mk (HB.out.trans (hb.mono HB.out.size))
  clear HT; have HT := HT_n; clear HT_n
  clear HB; have HB := HB_n; clear HB_n
  clear hb
  go_wp2_with fail
  go_at_call 24
  have hlt := HM.out.lt
  refine (twin_calls g b _ (f0) _ HM.out (by decide)).mono ?_
  rintro e_t w_t ⟨g2, b2, rfl, hmd2, hg2, hb2, hb⟩
  clear HD
  have HD := Aside0.mk (show g < g2 ∧ g < b2 ∧ b < g2 ∧ b < b2 by omega)
  have HNx := Aside0.mk hmd2
  clear hmd2 hg2 hb2 hlt
  have HT_n := Aside0.mk (HT.out.below hb)
  have HB_n := Aside0.mk (HB.out.trans (hb.mono HB.out.size))
  have HM_n := Aside0.mk (HM.out.below hb)
  clear HT; have HT := HT_n; clear HT_n
  clear HB; have HB := HB_n; clear HB_n
  clear HM; have HM := HM_n; clear HM_n
  clear hb
  have HN := HNx; clear HNx
  go_wp2_with fail
  go_at_call 15
  refine (of_calls 4 kK y 0 _).mono ?_
  rintro e_1 w_3 ⟨gk, rfl, hck, hge, hb⟩
  have CK := Aside0.mk (blk_cell hck 0)
  clear hck hge
  have HT_n := Aside0.mk (HT.out.below hb)
  have HB_n := Aside0.mk (HB.out.trans (hb.mono HB.out.size))
  have HM_n := Aside0.mk (HM.out.below hb)
  have HN_n := Aside0.mk (HN.out.below hb)
  clear HT; have HT := HT_n; clear HT_n
  clear HB; have HB := HB_n; clear HB_n
  clear HM; have HM := HM_n; clear HM_n
  clear HN; have HN := HN_n; clear HN_n
  clear hb
  simp only [rqOf, Rq.c]
  go_wp2_with fail
  go_at_call 16
  refine (apply_one g b _ (f0) (rqOf 4 y 0) kK ⟨gk, 0, none⟩ 1 _ _ _ HM.out (by decide) (by decide) CK.out (show (4 : Int) ≠ 1 ∧ (4 : Int) ≠ 2 ∧ (4 : Int) ≠ 13 by decide) HT.out (show y.size ≤ 140737488355328 by have := HZ.out; omega) (show (0 : Int) ≤ 0 by decide)).mono ?_
  rintro e_2 w_4 ⟨rfl, hmd, hm⟩
  rw [add_yes kK y 1 2] at hmd ⊢
  simp only [An.c, ans, say]
  clear CK
  have HT_n := Aside0.mk (HT.out.mod hm (fun e => by have := HG.out; have := HD.out; omega))
  have HB_n := Aside0.mk (hm.after HB.out HB.out.size (fun q hq => by rw [hq]; have := HG.out; have := HD.out; omega))
  have HN_n := Aside0.mk (HN.out.mod hm (fun e => by have := HD.out; omega) (fun e => by have := HD.out; omega))
  clear HT; have HT := HT_n; clear HT_n
  clear HB; have HB := HB_n; clear HB_n
  clear HN; have HN := HN_n; clear HN_n
  clear HM; have HM := Aside0.mk hmd; clear hmd hm
  go_wp2_with fail
  go_at_call 15
  refine (of_calls 5 kK y 0 _).mono ?_
  rintro e_3 w_5 ⟨gk, rfl, hck, hge, hb⟩
  have CK := Aside0.mk (blk_cell hck 0)
  clear hck hge
  have HT_n := Aside0.mk (HT.out.below hb)
  have HB_n := Aside0.mk (HB.out.trans (hb.mono HB.out.size))
  have HM_n := Aside0.mk (HM.out.below hb)
  have HN_n := Aside0.mk (HN.out.below hb)
  clear HT; have HT := HT_n; clear HT_n
  clear HB; have HB := HB_n; clear HB_n
  clear HM; have HM := HM_n; clear HM_n
  clear HN; have HN := HN_n; clear HN_n
  clear hb
  simp only [rqOf, Rq.c]
  go_wp2_with fail
  go_at_call 16
  refine (apply_one g2 b2 _ (f0) (rqOf 5 y 0) kK ⟨gk, 0, none⟩ 1 _ _ _ HN.out (by decide) (by decide) CK.out (show (5 : Int) ≠ 1 ∧ (5 : Int) ≠ 2 ∧ (5 : Int) ≠ 13 by decide) HT.out (show y.size ≤ 140737488355328 by have := HZ.out; omega) (show (0 : Int) ≤ 0 by decide)).mono ?_
  rintro e_4 w_6 ⟨rfl, hmd, hm⟩
  rw [rep_no kK y 1 2] at hmd ⊢
  simp only [An.c, ans, say]
  clear CK
  have HT_n := Aside0.mk (HT.out.mod hm (fun e => by have := HG.out; have := HD.out; omega))
  have HB_n := Aside0.mk (hm.after HB.out HB.out.size (fun q hq => by rw [hq]; have := HG.out; have := HD.out; omega))
  have HM_n := Aside0.mk (HM.out.mod hm (fun e => by have := HD.out; omega) (fun e => by have := HD.out; omega))
  clear HT; have HT := HT_n; clear HT_n
  clear HB; have HB := HB_n; clear HB_n
  clear HM; have HM := HM_n; clear HM_n
  clear HN; have HN := Aside0.mk hmd; clear hmd hm
  go_wp2_with fail
  refine calls_at (fun W => Below w_6.heap.size w_6 W ∧ W.heap[w_6.heap.size]? = some (.cells #[.int .i64 2, .slice none 0 0, .bool false, .int .u64 0, .string ⟨#[]⟩, .int .i64 0, .int .i64 0, .int .i64 0, .int .i64 0] 32 (0, 0)) ∧ W.heap[w_6.heap.size + 1]? = some (.cells #[.int .i64 3, .slice none 0 0, .bool false, .int .u64 0, .string ⟨#[]⟩, .int .i64 0, .int .i64 0, .int .i64 0, .int .i64 0] 32 (0, 0))) (blks2 w_6 (.cells #[.int .i64 2, .slice none 0 0, .bool false, .int .u64 0, .string ⟨#[]⟩, .int .i64 0, .int .i64 0, .int .i64 0, .int .i64 0] 32) (.cells #[.int .i64 3, .slice none 0 0, .bool false, .int .u64 0, .string ⟨#[]⟩, .int .i64 0, .int .i64 0, .int .i64 0, .int .i64 0] 32)) (fun W hW => ?_)
  rcases hW with ⟨hb, h1, h2⟩
  have T9 := Aside0.mk h1
  have T10 := Aside0.mk h2
  clear h1 h2
  have HT_n := Aside0.mk (HT.out.below hb)
  have HB_n := Aside0.mk (HB.out.trans (hb.mono HB.out.size))
  have HM_n := Aside0.mk (HM.out.below hb)
  have HN_n := Aside0.mk (HN.out.below hb)
  clear HT; have HT := HT_n; clear HT_n
  clear HB; have HB := HB_n; clear HB_n
  clear HM; have HM := HM_n; clear HM_n
  clear HN; have HN := HN_n; clear HN_n
  clear hb
  go_at_call 15
  refine (of_calls 9 kK eA 0 _).mono ?_
  rintro e_5 w_7 ⟨gk, rfl, hck, hge, hb⟩
  have CK := Aside0.mk (blk_cell hck 0)
  clear hck hge
  have HT_n := Aside0.mk (HT.out.below hb)
  have HB_n := Aside0.mk (HB.out.trans (hb.mono HB.out.size))
  have HM_n := Aside0.mk (HM.out.below hb)
  have HN_n := Aside0.mk (HN.out.below hb)
  have T9_n := Aside0.mk ((hb.block _ (blk_lt T9.out)).trans T9.out)
  have T10_n := Aside0.mk ((hb.block _ (blk_lt T10.out)).trans T10.out)
  clear HT; have HT := HT_n; clear HT_n
  clear HB; have HB := HB_n; clear HB_n
  clear HM; have HM := HM_n; clear HM_n
  clear HN; have HN := HN_n; clear HN_n
  clear T9; have T9 := T9_n; clear T9_n
  clear T10; have T10 := T10_n; clear T10_n
  clear hb
  simp only [rqOf, Rq.c]
  go_wp2_with fail
  go_at_call 16
  refine (apply_one g b _ (Fk kK y 0 2) (rqOf 9 eA 0) kK ⟨gk, 0, none⟩ 1 _ _ _ HM.out (by decide) (by decide) CK.out (show (9 : Int) ≠ 1 ∧ (9 : Int) ≠ 2 ∧ (9 : Int) ≠ 13 by decide) HT.out (by decide) (show (0 : Int) ≤ 0 by decide)).mono ?_
  rintro e_6 w_8 ⟨rfl, hmd, hm⟩
  rw [del_yes kK y 0 2 1 3] at hmd ⊢
  simp only [An.c, ans, say]
  clear CK
  have HT_n := Aside0.mk (HT.out.mod hm (fun e => by have := HG.out; have := HD.out; omega))
  have HB_n := Aside0.mk (hm.after HB.out HB.out.size (fun q hq => by rw [hq]; have := HG.out; have := HD.out; omega))
  have HN_n := Aside0.mk (HN.out.mod hm (fun e => by have := HD.out; omega) (fun e => by have := HD.out; omega))
  have T9_n := Aside0.mk (blk_map T9.out hm HM.out.mp)
  have T10_n := Aside0.mk (blk_map T10.out hm HM.out.mp)
  clear HT; have HT := HT_n; clear HT_n
  clear HB; have HB := HB_n; clear HB_n
  clear HN; have HN := HN_n; clear HN_n
  clear T9; have T9 := T9_n; clear T9_n
  clear T10; have T10 := T10_n; clear T10_n
  clear HM; have HM := Aside0.mk hmd; clear hmd hm
  go_wp2_with fail
  go_at_call 15
  refine (of_calls 4 kK y 0 _).mono ?_
  rintro e_7 w_9 ⟨gk, rfl, hck, hge, hb⟩
  have CK := Aside0.mk (blk_cell hck 0)
  clear hck hge
  have HT_n := Aside0.mk (HT.out.below hb)
  have HB_n := Aside0.mk (HB.out.trans (hb.mono HB.out.size))
  have HM_n := Aside0.mk (HM.out.below hb)
  have HN_n := Aside0.mk (HN.out.below hb)
  have T9_n := Aside0.mk ((hb.block _ (blk_lt T9.out)).trans T9.out)
  have T10_n := Aside0.mk ((hb.block _ (blk_lt T10.out)).trans T10.out)
  clear HT; have HT := HT_n; clear HT_n
  clear HB; have HB := HB_n; clear HB_n
  clear HM; have HM := HM_n; clear HM_n
  clear HN; have HN := HN_n; clear HN_n
  clear T9; have T9 := T9_n; clear T9_n
  clear T10; have T10 := T10_n; clear T10_n
  clear hb
  simp only [rqOf, Rq.c]
  go_wp2_with fail
  go_at_call 16
  refine (apply_one g b _ (upd (Fk kK y 0 2) kK none) (rqOf 4 y 0) kK ⟨gk, 0, none⟩ 1 _ _ _ HM.out (by decide) (by decide) CK.out (show (4 : Int) ≠ 1 ∧ (4 : Int) ≠ 2 ∧ (4 : Int) ≠ 13 by decide) HT.out (show y.size ≤ 140737488355328 by have := HZ.out; omega) (show (0 : Int) ≤ 0 by decide)).mono ?_
  rintro e_8 w_10 ⟨rfl, hmd, hm⟩
  rw [add_del kK y y 0 2 1 4] at hmd ⊢
  simp only [An.c, ans, say]
  clear CK
  have HT_n := Aside0.mk (HT.out.mod hm (fun e => by have := HG.out; have := HD.out; omega))
  have HB_n := Aside0.mk (hm.after HB.out HB.out.size (fun q hq => by rw [hq]; have := HG.out; have := HD.out; omega))
  have HN_n := Aside0.mk (HN.out.mod hm (fun e => by have := HD.out; omega) (fun e => by have := HD.out; omega))
  have T9_n := Aside0.mk (blk_map T9.out hm HM.out.mp)
  have T10_n := Aside0.mk (blk_map T10.out hm HM.out.mp)
  clear HT; have HT := HT_n; clear HT_n
  clear HB; have HB := HB_n; clear HB_n
  clear HN; have HN := HN_n; clear HN_n
  clear T9; have T9 := T9_n; clear T9_n
  clear T10; have T10 := T10_n; clear T10_n
  clear HM; have HM := Aside0.mk hmd; clear hmd hm
  have q1 : ∀ o, (w_10.alloc o).cell? ⟨w_6.heap.size, 0, none⟩ = some (.int .i64 2) := fun o => blk_cell (blk_alloc T9.out o) 0
  have q2 : ∀ o, (w_10.alloc o).cell? ⟨w_6.heap.size + 1, 0, none⟩ = some (.int .i64 3) := fun o => blk_cell (blk_alloc T10.out o) 0
  go_wp2_with fail
  go_at_call 3
  refine (runs_calls _ (HT.out.alloc _)).mono ?_
  rintro e_1 w_e ⟨rfl, hb⟩
  have HBm := Aside0.mk (HB.out.trans (((below_alloc (Below.refl _ _) _).trans (hb.mono (by simp))).mono HB.out.size))
  clear hb HB
  go_wp2
  go_ret
  exact ⟨rfl, HBm.out⟩
set_option maxHeartbeats 16000000 in
set_option maxRecDepth 100000 in
theorem adds_held (x y : ByteArray) (h1 : (x.size : Int) ≤ 140737488355328) (h2 : (y.size : Int) ≤ 140737488355328) (hs : ¬ 300 < x.size + y.size) (w : World) (ht : Pow w) :
    Calls Tryd.prog 9 #[.string x, .string y, .bool true] w fun e w' => e = .returned (.bool true) ∧ Below w.heap.size w w' := by
  have r0 : decide ((300 : Int) < (x.size : Int) + (y.size : Int)) = false := decide_eq_false (by omega)
  have r1 : ¬ (300 : Int) < (x.size : Int) + (y.size : Int) := by omega
  have HZ := Aside0.mk (show x.size ≤ 140737488355328 ∧ y.size ≤ 140737488355328 by omega)
  have HT := Aside0.mk ht
  have HB := Aside0.mk (Below.refl w.heap.size w)
  have H0 := Aside0.mk ht.lt
  clear ht
  go_enter Tryd.func9, Tryd.ntmps9
  go_wp2_with fail
  go_at_call 14
  refine (new_calls _).mono ?_
  rintro e_0 w_0 ⟨g, b, rfl, hmd, hg, hbg, hb⟩
  have HG := Aside0.mk (And.intro hbg H0.out)
  have HM := Aside0.mk hmd
  clear hmd hg hbg H0
  have HD := Aside0.mk (show b = b from rfl)
  have HT_n := Aside0.mk (HT.out.below hb)
  have HB_n := Aside0.mk (HB.out.trans (hb.mono HB.out.size))
  clear HT; have HT := HT_n; clear HT_n
  clear HB; have HB := HB_n; clear HB_n
  clear hb
  go_wp2_with fail
  go_at_call 15
  refine (of_calls 3 kK x 0 _).mono ?_
  rintro e_1 w_1 ⟨gk, rfl, hck, hge, hb⟩
  have CK := Aside0.mk (blk_cell hck 0)
  clear hck hge
  have HT_n := Aside0.mk (HT.out.below hb)
  have HB_n := Aside0.mk (HB.out.trans (hb.mono HB.out.size))
  have HM_n := Aside0.mk (HM.out.below hb)
  clear HT; have HT := HT_n; clear HT_n
  clear HB; have HB := HB_n; clear HB_n
  clear HM; have HM := HM_n; clear HM_n
  clear hb
  simp only [rqOf, Rq.c]
  go_wp2_with fail
  go_at_call 16
  refine (apply_one g b _ (f0) ({ rqOf 3 x 0 with fl := 0 }) kK ⟨gk, 0, none⟩ 1 _ _ _ HM.out (by decide) (by decide) CK.out (show (3 : Int) ≠ 1 ∧ (3 : Int) ≠ 2 ∧ (3 : Int) ≠ 13 by decide) HT.out (show x.size ≤ 140737488355328 by have := HZ.out; omega) (show (0 : Int) ≤ 0 by decide)).mono ?_
  rintro e_2 w_2 ⟨rfl, hmd, hm⟩
  rw [to_set kK x 0 1 1] at hmd ⊢
  simp only [An.c, ans, say]
  clear CK
  have HT_n := Aside0.mk (HT.out.mod hm (fun e => by have := HG.out; have := HD.out; omega))
  have HB_n := Aside0.mk (hm.after HB.out HB.out.size (fun q hq => by rw [hq]; have := HG.out; have := HD.out; omega))
  clear HT; have HT := HT_n; clear HT_n
  clear HB; have HB := HB_n; clear HB_n
  clear HM; have HM := Aside0.mk hmd; clear hmd hm
  go_wp2_with fail
  go_at_call 24
  have hlt := HM.out.lt
  refine (twin_calls g b _ (Fk kK x 0 1) _ HM.out (by decide)).mono ?_
  rintro e_t w_t ⟨g2, b2, rfl, hmd2, hg2, hb2, hb⟩
  clear HD
  have HD := Aside0.mk (show g < g2 ∧ g < b2 ∧ b < g2 ∧ b < b2 by omega)
  have HNx := Aside0.mk hmd2
  clear hmd2 hg2 hb2 hlt
  have HT_n := Aside0.mk (HT.out.below hb)
  have HB_n := Aside0.mk (HB.out.trans (hb.mono HB.out.size))
  have HM_n := Aside0.mk (HM.out.below hb)
  clear HT; have HT := HT_n; clear HT_n
  clear HB; have HB := HB_n; clear HB_n
  clear HM; have HM := HM_n; clear HM_n
  clear hb
  have HN := HNx; clear HNx
  go_wp2_with fail
  go_at_call 15
  refine (of_calls 4 kK y 0 _).mono ?_
  rintro e_3 w_3 ⟨gk, rfl, hck, hge, hb⟩
  have CK := Aside0.mk (blk_cell hck 0)
  clear hck hge
  have HT_n := Aside0.mk (HT.out.below hb)
  have HB_n := Aside0.mk (HB.out.trans (hb.mono HB.out.size))
  have HM_n := Aside0.mk (HM.out.below hb)
  have HN_n := Aside0.mk (HN.out.below hb)
  clear HT; have HT := HT_n; clear HT_n
  clear HB; have HB := HB_n; clear HB_n
  clear HM; have HM := HM_n; clear HM_n
  clear HN; have HN := HN_n; clear HN_n
  clear hb
  simp only [rqOf, Rq.c]
  go_wp2_with fail
  go_at_call 16
  refine (apply_one g b _ (Fk kK x 0 1) (rqOf 4 y 0) kK ⟨gk, 0, none⟩ 1 _ _ _ HM.out (by decide) (by decide) CK.out (show (4 : Int) ≠ 1 ∧ (4 : Int) ≠ 2 ∧ (4 : Int) ≠ 13 by decide) HT.out (show y.size ≤ 140737488355328 by have := HZ.out; omega) (show (0 : Int) ≤ 0 by decide)).mono ?_
  rintro e_4 w_4 ⟨rfl, hmd, hm⟩
  rw [add_no kK x y 0 1 1 2] at hmd ⊢
  simp only [An.c, ans, say]
  clear CK
  have HT_n := Aside0.mk (HT.out.mod hm (fun e => by have := HG.out; have := HD.out; omega))
  have HB_n := Aside0.mk (hm.after HB.out HB.out.size (fun q hq => by rw [hq]; have := HG.out; have := HD.out; omega))
  have HN_n := Aside0.mk (HN.out.mod hm (fun e => by have := HD.out; omega) (fun e => by have := HD.out; omega))
  clear HT; have HT := HT_n; clear HT_n
  clear HB; have HB := HB_n; clear HB_n
  clear HN; have HN := HN_n; clear HN_n
  clear HM; have HM := Aside0.mk hmd; clear hmd hm
  go_wp2_with fail
  go_at_call 15
  refine (of_calls 5 kK y 0 _).mono ?_
  rintro e_5 w_5 ⟨gk, rfl, hck, hge, hb⟩
  have CK := Aside0.mk (blk_cell hck 0)
  clear hck hge
  have HT_n := Aside0.mk (HT.out.below hb)
  have HB_n := Aside0.mk (HB.out.trans (hb.mono HB.out.size))
  have HM_n := Aside0.mk (HM.out.below hb)
  have HN_n := Aside0.mk (HN.out.below hb)
  clear HT; have HT := HT_n; clear HT_n
  clear HB; have HB := HB_n; clear HB_n
  clear HM; have HM := HM_n; clear HM_n
  clear HN; have HN := HN_n; clear HN_n
  clear hb
  simp only [rqOf, Rq.c]
  go_wp2_with fail
  go_at_call 16
  refine (apply_one g2 b2 _ (Fk kK x 0 1) (rqOf 5 y 0) kK ⟨gk, 0, none⟩ 1 _ _ _ HN.out (by decide) (by decide) CK.out (show (5 : Int) ≠ 1 ∧ (5 : Int) ≠ 2 ∧ (5 : Int) ≠ 13 by decide) HT.out (show y.size ≤ 140737488355328 by have := HZ.out; omega) (show (0 : Int) ≤ 0 by decide)).mono ?_
  rintro e_6 w_6 ⟨rfl, hmd, hm⟩
  rw [rep_yes kK x y 0 1 1 2] at hmd ⊢
  simp only [An.c, ans, say]
  clear CK
  have HT_n := Aside0.mk (HT.out.mod hm (fun e => by have := HG.out; have := HD.out; omega))
  have HB_n := Aside0.mk (hm.after HB.out HB.out.size (fun q hq => by rw [hq]; have := HG.out; have := HD.out; omega))
  have HM_n := Aside0.mk (HM.out.mod hm (fun e => by have := HD.out; omega) (fun e => by have := HD.out; omega))
  clear HT; have HT := HT_n; clear HT_n
  clear HB; have HB := HB_n; clear HB_n
  clear HM; have HM := HM_n; clear HM_n
  clear HN; have HN := Aside0.mk hmd; clear hmd hm
  go_wp2_with fail
  refine calls_at (fun W => Below w_6.heap.size w_6 W ∧ W.heap[w_6.heap.size]? = some (.cells #[.int .i64 3, .slice none 0 0, .bool false, .int .u64 0, .string ⟨#[]⟩, .int .i64 0, .int .i64 0, .int .i64 0, .int .i64 0] 32 (0, 0)) ∧ W.heap[w_6.heap.size + 1]? = some (.cells #[.int .i64 2, .slice none 0 0, .bool false, .int .u64 0, .string ⟨#[]⟩, .int .i64 0, .int .i64 0, .int .i64 0, .int .i64 0] 32 (0, 0))) (blks2 w_6 (.cells #[.int .i64 3, .slice none 0 0, .bool false, .int .u64 0, .string ⟨#[]⟩, .int .i64 0, .int .i64 0, .int .i64 0, .int .i64 0] 32) (.cells #[.int .i64 2, .slice none 0 0, .bool false, .int .u64 0, .string ⟨#[]⟩, .int .i64 0, .int .i64 0, .int .i64 0, .int .i64 0] 32)) (fun W hW => ?_)
  rcases hW with ⟨hb, h1, h2⟩
  have T9 := Aside0.mk h1
  have T10 := Aside0.mk h2
  clear h1 h2
  have HT_n := Aside0.mk (HT.out.below hb)
  have HB_n := Aside0.mk (HB.out.trans (hb.mono HB.out.size))
  have HM_n := Aside0.mk (HM.out.below hb)
  have HN_n := Aside0.mk (HN.out.below hb)
  clear HT; have HT := HT_n; clear HT_n
  clear HB; have HB := HB_n; clear HB_n
  clear HM; have HM := HM_n; clear HM_n
  clear HN; have HN := HN_n; clear HN_n
  clear hb
  go_at_call 15
  refine (of_calls 9 kK eA 0 _).mono ?_
  rintro e_7 w_7 ⟨gk, rfl, hck, hge, hb⟩
  have CK := Aside0.mk (blk_cell hck 0)
  clear hck hge
  have HT_n := Aside0.mk (HT.out.below hb)
  have HB_n := Aside0.mk (HB.out.trans (hb.mono HB.out.size))
  have HM_n := Aside0.mk (HM.out.below hb)
  have HN_n := Aside0.mk (HN.out.below hb)
  have T9_n := Aside0.mk ((hb.block _ (blk_lt T9.out)).trans T9.out)
  have T10_n := Aside0.mk ((hb.block _ (blk_lt T10.out)).trans T10.out)
  clear HT; have HT := HT_n; clear HT_n
  clear HB; have HB := HB_n; clear HB_n
  clear HM; have HM := HM_n; clear HM_n
  clear HN; have HN := HN_n; clear HN_n
  clear T9; have T9 := T9_n; clear T9_n
  clear T10; have T10 := T10_n; clear T10_n
  clear hb
  simp only [rqOf, Rq.c]
  go_wp2_with fail
  go_at_call 16
  refine (apply_one g b _ (Fk kK x 0 1) (rqOf 9 eA 0) kK ⟨gk, 0, none⟩ 1 _ _ _ HM.out (by decide) (by decide) CK.out (show (9 : Int) ≠ 1 ∧ (9 : Int) ≠ 2 ∧ (9 : Int) ≠ 13 by decide) HT.out (by decide) (show (0 : Int) ≤ 0 by decide)).mono ?_
  rintro e_8 w_8 ⟨rfl, hmd, hm⟩
  rw [del_yes kK x 0 1 1 3] at hmd ⊢
  simp only [An.c, ans, say]
  clear CK
  have HT_n := Aside0.mk (HT.out.mod hm (fun e => by have := HG.out; have := HD.out; omega))
  have HB_n := Aside0.mk (hm.after HB.out HB.out.size (fun q hq => by rw [hq]; have := HG.out; have := HD.out; omega))
  have HN_n := Aside0.mk (HN.out.mod hm (fun e => by have := HD.out; omega) (fun e => by have := HD.out; omega))
  have T9_n := Aside0.mk (blk_map T9.out hm HM.out.mp)
  have T10_n := Aside0.mk (blk_map T10.out hm HM.out.mp)
  clear HT; have HT := HT_n; clear HT_n
  clear HB; have HB := HB_n; clear HB_n
  clear HN; have HN := HN_n; clear HN_n
  clear T9; have T9 := T9_n; clear T9_n
  clear T10; have T10 := T10_n; clear T10_n
  clear HM; have HM := Aside0.mk hmd; clear hmd hm
  go_wp2_with fail
  go_at_call 15
  refine (of_calls 4 kK y 0 _).mono ?_
  rintro e_9 w_9 ⟨gk, rfl, hck, hge, hb⟩
  have CK := Aside0.mk (blk_cell hck 0)
  clear hck hge
  have HT_n := Aside0.mk (HT.out.below hb)
  have HB_n := Aside0.mk (HB.out.trans (hb.mono HB.out.size))
  have HM_n := Aside0.mk (HM.out.below hb)
  have HN_n := Aside0.mk (HN.out.below hb)
  have T9_n := Aside0.mk ((hb.block _ (blk_lt T9.out)).trans T9.out)
  have T10_n := Aside0.mk ((hb.block _ (blk_lt T10.out)).trans T10.out)
  clear HT; have HT := HT_n; clear HT_n
  clear HB; have HB := HB_n; clear HB_n
  clear HM; have HM := HM_n; clear HM_n
  clear HN; have HN := HN_n; clear HN_n
  clear T9; have T9 := T9_n; clear T9_n
  clear T10; have T10 := T10_n; clear T10_n
  clear hb
  simp only [rqOf, Rq.c]
  go_wp2_with fail
  go_at_call 16
  refine (apply_one g b _ (upd (Fk kK x 0 1) kK none) (rqOf 4 y 0) kK ⟨gk, 0, none⟩ 1 _ _ _ HM.out (by decide) (by decide) CK.out (show (4 : Int) ≠ 1 ∧ (4 : Int) ≠ 2 ∧ (4 : Int) ≠ 13 by decide) HT.out (show y.size ≤ 140737488355328 by have := HZ.out; omega) (show (0 : Int) ≤ 0 by decide)).mono ?_
  rintro e_10 w_10 ⟨rfl, hmd, hm⟩
  rw [add_del kK x y 0 1 1 4] at hmd ⊢
  simp only [An.c, ans, say]
  clear CK
  have HT_n := Aside0.mk (HT.out.mod hm (fun e => by have := HG.out; have := HD.out; omega))
  have HB_n := Aside0.mk (hm.after HB.out HB.out.size (fun q hq => by rw [hq]; have := HG.out; have := HD.out; omega))
  have HN_n := Aside0.mk (HN.out.mod hm (fun e => by have := HD.out; omega) (fun e => by have := HD.out; omega))
  have T9_n := Aside0.mk (blk_map T9.out hm HM.out.mp)
  have T10_n := Aside0.mk (blk_map T10.out hm HM.out.mp)
  clear HT; have HT := HT_n; clear HT_n
  clear HB; have HB := HB_n; clear HB_n
  clear HN; have HN := HN_n; clear HN_n
  clear T9; have T9 := T9_n; clear T9_n
  clear T10; have T10 := T10_n; clear T10_n
  clear HM; have HM := Aside0.mk hmd; clear hmd hm
  have q1 : ∀ o, (w_10.alloc o).cell? ⟨w_6.heap.size, 0, none⟩ = some (.int .i64 3) := fun o => blk_cell (blk_alloc T9.out o) 0
  have q2 : ∀ o, (w_10.alloc o).cell? ⟨w_6.heap.size + 1, 0, none⟩ = some (.int .i64 2) := fun o => blk_cell (blk_alloc T10.out o) 0
  go_wp2_with fail
  go_at_call 3
  refine (runs_calls _ (HT.out.alloc _)).mono ?_
  rintro e_1 w_e ⟨rfl, hb⟩
  have HBm := Aside0.mk (HB.out.trans (((below_alloc (Below.refl _ _) _).trans (hb.mono (by simp))).mono HB.out.size))
  clear hb HB
  go_wp2
  go_ret
  exact ⟨rfl, HBm.out⟩
theorem adds_card (x y : ByteArray) (hx : x.size ≤ 140737488351232) (hy : y.size ≤ 140737488351232) (hd : Bool) (w : World) (ht : Pow w) :
    Calls Tryd.prog 9 #[.string x, .string y, .bool hd] w fun e w' => e = .returned (.bool true) ∧ Below w.heap.size w w' := by
  by_cases hs : 300 < x.size + y.size
  · exact adds_long x y hd (by omega) (by omega) hs w ht
  · cases hd
    · exact adds_free x y (by omega) (by omega) hs w ht
    · exact adds_held x y (by omega) (by omega) hs w ht
end Go.Proofs.YtepklobkppdliaaDoor.Md

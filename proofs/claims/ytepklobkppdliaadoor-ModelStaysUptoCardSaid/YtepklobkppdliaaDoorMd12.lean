/- The model: Apply of flush; of a request that has not one key. -/
import Derived.Test.YtepklobkppdliaaDoorMd11
namespace Go.Proofs.YtepklobkppdliaaDoor.Md
open Go.RowKit Go.Proofs.YtepklobkppdliaaDoorW.PrintWords Go.Proofs.YtepklobkppdliaaDoorW.PrintLast Go.Proofs.YtepklobkppdliaaDoorW.PrintMore Go.Proofs.YtepklobkppdliaaDoor.Lib Go.Proofs.YtepklobkppdliaaDoor.Open
set_option maxHeartbeats 8000000 in
set_option maxRecDepth 100000 in
theorem apply_short (g : Nat) (r : Rq) (A : Option Addr) (m cap : Nat) (now ver : Int) (w : World) (hm : m ≠ 1) (hv : r.verb ≠ 1 ∧ r.verb ≠ 2 ∧ r.verb ≠ 13) :
    Calls Tryd.prog 16 #[.pointer (some ⟨g, 0, none⟩), .agg (r.c (.slice A m cap)), .int .i64 now, .int .i64 ver] w fun e w' => e = .returned (.agg (ans 0 0 ⟨#[]⟩)) ∧ Below w.heap.size w w' := by
  have e1 : (r.verb == 1) = false := beq_eq_false_iff_ne.2 hv.1
  have e2 : (r.verb == 2) = false := beq_eq_false_iff_ne.2 hv.2.1
  have e13 : (r.verb == 13) = false := beq_eq_false_iff_ne.2 hv.2.2
  have em : ((m : Int) != 1) = true := bne_iff_ne.2 (by omega)
  clear hv hm
  simp only [Rq.c]
  go_enter Tryd.func16, Tryd.ntmps16
  go_wp2
  have s1 : (w.alloc (.cells (r.c (.slice A m cap)) 27)).heap.size = w.heap.size + 1 := by simp
  refine bodyPost_ret (results_cell_row rfl _ _ (w.heap.size + 1) 32 (ans 0 0 ⟨#[]⟩) (0, 0) _ rfl ?_ Tryd.underlying32 rfl (by kernel_rfl)) rfl ⟨rfl, below_alloc (below_alloc (Below.refl _ _) _) _⟩
  rw [← s1]
  exact blk_new (w.alloc (.cells (r.c (.slice A m cap)) 27)) _
set_option maxHeartbeats 8000000 in
set_option maxRecDepth 100000 in
theorem apply_flush (g b n : Nat) (f : ByteArray → Option Ent) (r : Rq) (kv : Value) (now ver : Int) (w : World) (h : Md w g b n f) (hv : r.verb = 13) :
    Calls Tryd.prog 16 #[.pointer (some ⟨g, 0, none⟩), .agg (r.c kv), .int .i64 now, .int .i64 ver] w fun e w' => e = .returned (.agg (ans 9 0 ⟨#[]⟩)) ∧ ∃ b', Md w' g b' 0 (fun _ => none) ∧ w.heap.size ≤ b' ∧ Mod (fun q => q = g) w w' := by
  have e1 : (r.verb == 1) = false := by rw [hv]; rfl
  have e2 : (r.verb == 2) = false := by rw [hv]; rfl
  have e13 : (r.verb == 13) = true := by rw [hv]; rfl
  have hmm := @run_makeMap Tryd.prog
  have s1 : (w.alloc (.cells (r.c kv) 27)).heap.size = w.heap.size + 1 := by simp
  have s2 : ((w.alloc (.cells (r.c kv) 27)).alloc (.cells A0 32)).heap.size = w.heap.size + 1 + 1 := by simp
  have HS := Aside0.mk (And.intro s1 s2)
  clear s1 s2
  have hg := h.lt.1
  have c0 : ∀ o1 o2 o3, (((w.alloc o1).alloc o2).alloc o3).cell? ⟨g, 0, none⟩ = some (.map (some b)) := fun o1 o2 o3 => blk_cell (blk_alloc (blk_alloc (blk_alloc h.blk o1) o2) o3) 0
  have f0 : ∀ o1 o2 o3, (((w.alloc o1).alloc o2).alloc o3).frozen? ⟨g, 0, none⟩ = false := fun o1 o2 o3 => blk_frozen (blk_alloc (blk_alloc (blk_alloc h.blk o1) o2) o3) 0
  have HM := Aside0.mk h
  have HG := Aside0.mk hg
  clear h hv hg
  simp only [Rq.c]
  go_enter Tryd.func16, Tryd.ntmps16
  go_wp2_with (refine gate_ (.store 32 (.tmp 8) (.tmp 67)) rfl ?_; have hgl := HG.out; have hM3 := Mod.setCell (p := ⟨g, 0, none⟩) (Mod.refl (fun q => q = g) (((w.alloc (.cells (r.c kv) 27)).alloc (.cells A0 32)).alloc (.map #[] 0))) (.inl rfl) (.map (some (w.heap.size + 1 + 1))); have b8 := hM3.blk (show (((w.alloc (.cells (r.c kv) 27)).alloc (.cells A0 32)).alloc (.map #[] 0)).heap[w.heap.size + 1]? = some (.cells A0 32) by rw [← HS.out.1]; exact blk_alloc (blk_new _ _) _) (by omega); refine ev_store_row (.store 32 (.tmp 8) (.tmp 67)) rfl rfl rfl 32 (.tmp 8) (.tmp 67) rfl (w.heap.size + 1) (ans 9 0 ⟨#[]⟩) rfl rfl 32 A0 b8 (by kernel_rfl) rfl (ans_one _ _ _) ?_; intro w_5 hw5 hm5; have HW5 := Aside0.mk hw5; have HM5 := Aside0.mk hm5; have HM3 := Aside0.mk hM3; clear hw5 hm5 hM3 b8 hgl)
  refine bodyPost_ret (results_cell_row rfl _ _ (w.heap.size + 1) 32 _ (0, 0) _ rfl HW5.out Tryd.underlying32 rfl (by kernel_rfl)) rfl ⟨rfl, w.heap.size + 1 + 1, ⟨?_, ?_, fun k e h => by cases h⟩, by omega, ?_⟩
  · have hgl := HG.out
    exact HM5.out.blk (blk_put (blk_alloc (blk_alloc (blk_alloc HM.out.blk _) _) _) 0 _ rfl) (by omega)
  · have hgl := HG.out
    have hn := Mp.new ((w.alloc (.cells (r.c kv) 27)).alloc (.cells A0 32))
    rw [HS.out.2] at hn
    exact (hn.mod HM3.out (by omega)).mod HM5.out (by omega)
  · have hB := below_alloc (below_alloc (below_alloc (Below.refl w.heap.size w) (.cells (r.c kv) 27)) (.cells A0 32)) (.map #[] 0)
    exact ((Mod.of_below hB (fun q => q = g)).trans HM3.out (fun q hq => .inl hq)).trans HM5.out (fun q hq => .inr (by omega))
end Go.Proofs.YtepklobkppdliaaDoor.Md

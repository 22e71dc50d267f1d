/- The document model: Apply of a get. -/
import Derived.Test.YtepklobkppdliaaDoorURm4
namespace Go.Proofs.YtepklobkppdliaaDoor.Rm
open Go.RowKit Go.Proofs.YtepklobkppdliaaDoorW.PrintWords Go.Proofs.YtepklobkppdliaaDoorW.PrintLast Go.Proofs.YtepklobkppdliaaDoorW.PrintMore Go.Proofs.YtepklobkppdliaaDoor.Lib Go.Proofs.YtepklobkppdliaaDoor.Open Go.Proofs.YtepklobkppdliaaDoor.Md
/-- What is told of a key. -/
def rowAt (L : List Ent) (k : ByteArray) (now : Int) : Option Ent := if isAt k now L = true then L[placeOf k L]? else none
theorem rowAt_some {L : List Ent} {k : ByteArray} {now : Int} (h : isAt k now L = true) : ∃ x, L[placeOf k L]? = some x ∧ (x.key.toList == k.toList) = true ∧ rowAt L k now = some x := by
  have h0 := h
  unfold isAt at h
  cases hx : L[placeOf k L]? with
  | none => rw [hx] at h; cases h
  | some x =>
    rw [hx] at h
    simp only [Bool.and_eq_true] at h
    exact ⟨x, rfl, h.1, by unfold rowAt; rw [if_pos h0, hx]⟩
theorem rowAt_none {L : List Ent} {k : ByteArray} {now : Int} (h : isAt k now L = false) : rowAt L k now = none := by unfold rowAt; rw [if_neg (by rw [h]; decide)]
/-- What is told of keys. -/
def rows (L : List Ent) (ks : List ByteArray) (now : Int) : List Ent := ks.filterMap (fun k => rowAt L k now)
theorem rows_le (L : List Ent) (ks : List ByteArray) (now : Int) : (rows L ks now).length ≤ ks.length := List.length_filterMap_le _ _
theorem rows_none {L : List Ent} {ks : List ByteArray} {now : Int} {i : Nat} {k : ByteArray} (hk : ks[i]? = some k) (h : rowAt L k now = none) : rows L (ks.take (i + 1)) now = rows L (ks.take i) now := by
  unfold rows
  rw [List.take_add_one, hk, Option.toList_some, List.filterMap_append]
  simp [h]
theorem rows_some {L : List Ent} {ks : List ByteArray} {now : Int} {i : Nat} {k : ByteArray} {e : Ent} (hk : ks[i]? = some k) (h : rowAt L k now = some e) : rows L (ks.take (i + 1)) now = rows L (ks.take i) now ++ [e] := by
  unfold rows
  rw [List.take_add_one, hk, Option.toList_some, List.filterMap_append]
  simp [h]
def fcl (e : Ent) : List Value := [.string e.key, .int .i64 e.fl, .string e.val, .int .i64 e.cas]
theorem fcl_len (e : Ent) : (fcl e).length = 4 := rfl
theorem fcl_one (e : Ent) : ∀ u ∈ fcl e, u.oneCell' = true := by simp [fcl, Value.oneCell']
theorem info35 : (Tryd.prog.info? 35).map (fun i => (i.zero, i.size, i.bytes)) = some (some (.agg #[.string ⟨#[]⟩, .int .i64 0, .string ⟨#[]⟩, .int .i64 0]), 4, 48) := by kernel_rfl
/-- An answer with values. -/
def ansV (v : Value) (gets : Bool) : Array Value := #[.int .i64 1, v, .bool gets, .int .u64 0, .string ⟨#[]⟩, .int .i64 0, .int .i64 0, .int .i64 0, .int .i64 0]
theorem ansV_one (v : Value) (hv : v.oneCell' = true) (gets : Bool) : (ansV v gets).all (·.oneCell') = true := by
  unfold Value.oneCell' at hv
  simp [ansV, Value.oneCell', hv]
/-- The keys of a request in memory. -/
def Ks (w : World) (A : Option Addr) (ks : List ByteArray) : Prop := ks ≠ [] → ∃ ad, A = some ad ∧ ∀ i k, ks[i]? = some k → w.cell? (ad.add i) = some (.string k)
/-- The loop: i keys were asked. -/
def GetAt (w0 : World) (L : List Ent) (r : Rq) (A : Option Addr) (cap : Nat) (ks : List ByteArray) (now : Int) (gets : Bool) (R : Nat) (s : Value) (wr : World) : Prop :=
  ∃ (i : Nat) (v : Value), i + R = ks.length ∧ s = .int .i64 (i : Int) ∧ wr.ownsRow (w0.heap.size + 3) 35 4 v (rows L (ks.take i) now).length ((rows L (ks.take i) now).flatMap fcl) ∧ wr.heap[w0.heap.size + 1 + 1]? = some (.cells (ansV v gets) 32 (0, 0)) ∧
    wr.heap[w0.heap.size]? = some (.cells (r.c (.slice A ks.length cap)) 27 (0, 0)) ∧ wr.heap[w0.heap.size + 1]? = some (.cells A0 32 (0, 0)) ∧ Below w0.heap.size w0 wr ∧ w0.heap.size + 3 ≤ wr.heap.size
set_option maxHeartbeats 8000000 in
set_option maxRecDepth 100000 in
theorem rapply_get1 (B m : Nat) (vm : Value) (L : List Ent) (r : Rq) (A : Option Addr) (cap : Nat) (ks : List ByteArray) (now ver : Int) (w : World) (h : Rm w B m vm L) (hl2 : L.length ≤ 1000000) (hks : Ks w A ks) (hl : ks.length ≤ 1000000) (hv : r.verb = 1) :
    Calls Tryd.prog 32 #[.pointer (some ⟨m, 0, none⟩), .agg (r.c (.slice A ks.length cap)), .int .i64 now, .int .i64 ver] w fun e w' => ∃ v, e = .returned (.agg (ansV v false)) ∧ w'.ownsRow w.heap.size 35 4 v (rows L ks now).length ((rows L ks now).flatMap fcl) ∧ Below w.heap.size w w' := by
  have e1 : (r.verb == 1) = true := by rw [hv]; rfl
  have e2 : (r.verb == 2) = false := by rw [hv]; rfl
  have HM := Aside0.mk h
  have HL := Aside0.mk hl2
  have HK := Aside0.mk hks
  have HLn := Aside0.mk hl
  obtain ⟨N, hN⟩ : ∃ N, N = ks.length := ⟨_, rfl⟩
  have HN := Aside0.mk hN
  have hl' : N ≤ 1000000 := by omega
  rw [← hN]
  clear h hks hl hl2 hv hN
  simp only [Rq.c]
  go_enter Tryd.func32, Tryd.ntmps32
  go_wp2
  go_loopg [10] N (fun R s wr => GetAt w L r A cap ks now false R s wr)
  case atStart =>
    rw [HN.out]
    have s1 : (w.alloc (.cells (r.c (.slice A ks.length cap)) 27)).heap.size = w.heap.size + 1 := by simp
    have s2 : ((w.alloc (.cells (r.c (.slice A ks.length cap)) 27)).alloc (.cells A0 32)).heap.size = w.heap.size + 1 + 1 := by simp
    refine ⟨0, .slice none 0 0, by omega, rfl, own_nil _ _ _ _, ?_, ?_, ?_, ?_, by simp⟩
    · show (((w.alloc (.cells (r.c (.slice A ks.length cap)) 27)).alloc (.cells A0 32)).alloc (.cells (ansV (.slice none 0 0) false) 32)).heap[w.heap.size + 1 + 1]? = _
      rw [← s2]
      exact blk_new _ _
    · exact blk_alloc (blk_alloc (blk_new w (.cells (r.c (.slice A ks.length cap)) 27)) (.cells A0 32)) _
    · show (((w.alloc (.cells (r.c (.slice A ks.length cap)) 27)).alloc (.cells A0 32)).alloc (.cells (ansV (.slice none 0 0) false) 32)).heap[w.heap.size + 1]? = _
      rw [← s1]
      exact blk_alloc (blk_new _ _) _
    · exact below_alloc (below_alloc (below_alloc (Below.refl _ _) _) _) _
  case round =>
    obtain ⟨i, v, hi, rfl, ho, b9, b5, b8, hB, hsz⟩ := hrel
    obtain ⟨Av, cv, rfl⟩ := own_slice ho
    have HO := Aside0.mk ho
    have B9 := Aside0.mk b9
    have B5 := Aside0.mk b5
    have B8 := Aside0.mk b8
    have HB := Aside0.mk hB
    have HS := Aside0.mk hsz
    have kk : wr.cell? ⟨w.heap.size, 1, none⟩ = some (.slice A N cap) := by rw [HN.out]; exact blk_cell b5 1
    clear ho b9 b5 b8 hB hsz
    by_cases hlt : i < N
    · obtain ⟨k, hk⟩ : ∃ k, ks[i]? = some k := ⟨_, List.getElem?_eq_getElem (by have := HN.out; omega)⟩
      obtain ⟨ad, rfl, hc⟩ := HK.out (fun e => by rw [e] at hk; cases hk)
      have ck : wr.cell? (ad.add i) = some (.string k) := pw_cell_below HB.out (hc i k hk)
      have HKK := Aside0.mk hk
      have r1 : decide ((i : Int) < (N : Int)) = true := decide_eq_true (by omega)
      have HI := Aside0.mk hi
      have HMr := Aside0.mk (HM.out.below HB.out)
      clear hc hk hi
      cases hT : isAt k now L
      · have HT := Aside0.mk hT
        clear hT
        go_wp2_with (go_at_call 47; (refine (at_calls B m _ L k now _ HMr.out HL.out).mono ?_); rintro e_1 w_1 ⟨rfl, hw3⟩; subst hw3; rw [HT.out])
        go_roundg (N - (i + 1))
        case measure => have := HI.out; have := HN.out; omega
        case rel => exact ⟨i + 1, .slice Av (rows L (ks.take i) now).length cv, by have := HI.out; have := HN.out; omega, by go_num, by rw [rows_none HKK.out (rowAt_none HT.out)]; exact HO.out, B9.out, B5.out, B8.out, HB.out, HS.out⟩
      · obtain ⟨E, hx, hke, hra⟩ := rowAt_some hT
        obtain ⟨b, c2, rfl, _⟩ := HMr.out.row.form (by have := (List.getElem?_eq_some_iff.1 hx).1; omega)
        have HT := Aside0.mk hT
        have HX := Aside0.mk hx
        have HRA := Aside0.mk hra
        have km : wr.cell? ⟨m, 0, none⟩ = some (.slice (some ⟨b, 0, none⟩) L.length c2) := blk_cell HMr.out.blk 0
        have ip : placeOf k L < L.length := (List.getElem?_eq_some_iff.1 hx).1
        clear hT hx hra hke
        have LE := Aside0.mk (show (rows L (ks.take i) now).length ≤ 1000000 from Nat.le_trans (rows_le _ _ _) (Nat.le_trans (List.length_take_le _ _) (by have := HN.out; omega)))
        go_wp2_with (first | (go_at_call 47; (refine (at_calls B m _ L k now _ HMr.out HL.out).mono ?_); rintro e_1 w_1 ⟨rfl, hw3⟩; subst hw3; rw [HT.out]) | (refine gate_ (.load 38 (.tmp 54)) rfl ?_; refine ev_load_mid (.load 38 (.tmp 54)) rfl rfl 38 (.tmp 54) rfl b (placeOf k L * 5) (by go_simp) (ecl E) _ (HMr.out.range (placeOf k L) E HX.out) Tryd.underlying38 rfl (by kernel_rfl) ?_) | (refine gate_ (.store 38 (.tmp 13) (.tmp 55)) rfl ?_; refine ev_store_row (.store 38 (.tmp 13) (.tmp 55)) rfl rfl rfl 38 (.tmp 13) (.tmp 55) rfl wr.heap.size E.c rfl rfl 38 E0 (blk_new wr _) (by kernel_rfl) rfl (ent_one _) ?_; intro w_1 hw1 hm1; have hb : Below wr.heap.size wr w_1 := (Mod.after (below_alloc (Below.refl wr.heap.size wr) (.cells E0 38)) (by simp) hm1 (fun q hq => by omega)); have k0 : w_1.cell? ⟨wr.heap.size, 0, none⟩ = some (.string E.key) := blk_cell hw1 0; have k1 : w_1.cell? ⟨wr.heap.size, 1, none⟩ = some (.int .i64 E.fl) := blk_cell hw1 1; have k3 : w_1.cell? ⟨wr.heap.size, 3, none⟩ = some (.string E.val) := blk_cell hw1 3; have k4 : w_1.cell? ⟨wr.heap.size, 4, none⟩ = some (.int .i64 E.cas) := blk_cell hw1 4; have hb9 := (hb.block _ (blk_lt B9.out)).trans B9.out; have c91 : w_1.cell? ⟨w.heap.size + 1 + 1, 1, none⟩ = some (.slice Av (rows L (ks.take i) now).length cv) := blk_cell hb9 1; have B9n := Aside0.mk (hb9); have B5n := Aside0.mk ((hb.block _ (blk_lt B5.out)).trans B5.out); have B8n := Aside0.mk ((hb.block _ (blk_lt B8.out)).trans B8.out); have HOn := Aside0.mk (pw_own_below HO.out hb); have HBn := Aside0.mk (HB.out.trans (hb.mono HB.out.size)); have HSn := Aside0.mk (Nat.le_trans HS.out hb.size); clear B9 B5 B8 HO HB HS; have B9 := B9n; clear B9n; have B5 := B5n; clear B5n; have B8 := B8n; clear B8n; have HO := HOn; clear HOn; have HB := HBn; clear HBn; have HS := HSn; clear HSn; clear hw1 hm1 hb hb9 km) | (refine gate_ (.call { callee := .builtin .append, args := #[.tmp 57, .tmp 67], argTypes := #[29, 29] }) rfl ?_; refine ev_append (.tmp 57) (.tmp 67) 29 35 rfl rfl (w.heap.size + 3) _ 4 48 Tryd.underlying29 info35 rfl (by decide) (.slice Av (rows L (ks.take i) now).length cv) (rows L (ks.take i) now).length ((rows L (ks.take i) now).flatMap fcl) rfl (own_alloc HO.out (.cells (fcl E).toArray 35)) ⟨w_1.heap.size, 0, none⟩ 1 1 (fcl E) rfl rfl (fun j u hu => by rw [add_plain]; exact (blk_cell (blk_new w_1 (.cells (fcl E).toArray 35)) _).trans (by simpa using hu)) (fcl_one E) (by unfold maxLen; have := LE.out; omega) (by have := LE.out; omega) (by simp; have := HS.out; omega) ?_; intro v1 w_3 ho1 hm1 _ _; obtain ⟨A1, c1, rfl⟩ := own_slice ho1; have hne : ¬ some (w.heap.size + 1 + 1) = (Value.slice Av (rows L (ks.take i) now).length cv).ownBlock := (fun e => by have := own_base HO.out _ e.symm; omega); have hb9 := hm1.blk (blk_alloc B9.out (.cells (fcl E).toArray 35)) hne; have d1 : w_3.cell? ⟨w.heap.size + 1 + 1, 1, none⟩ = some (.slice Av (rows L (ks.take i) now).length cv) := blk_cell hb9 1; have f1 := blk_frozen hb9 1; have G9 := Aside0.mk hb9; have G5 := Aside0.mk (hm1.blk (blk_alloc B5.out (.cells (fcl E).toArray 35)) (fun e => by have := own_base HO.out _ e.symm; omega)); have G8 := Aside0.mk (hm1.blk (blk_alloc B8.out (.cells (fcl E).toArray 35)) (fun e => by have := own_base HO.out _ e.symm; omega)); have GO := Aside0.mk ho1; have GB := Aside0.mk (hm1.after (below_step HB.out (below_alloc (Below.refl _ _) (.cells (fcl E).toArray 35))) (Nat.le_trans HB.out.size (by simp)) (fun q hq => by have := own_base HO.out _ hq.symm; omega)); have GS := Aside0.mk (Nat.le_trans HS.out (Nat.le_trans (show w_1.heap.size ≤ (w_1.alloc (.cells (fcl E).toArray 35)).heap.size by simp) hm1.size)); clear ho1 hm1 hne hb9 c91))
        go_roundg (N - (i + 1))
        case measure => have := HI.out; have := HN.out; omega
        case rel =>
          have hM := Mod.setCell (p := ⟨w.heap.size + 1 + 1, 1, none⟩) (Mod.refl (fun q => q = w.heap.size + 1 + 1) w_3) (.inl rfl) (.slice A1 ((rows L (ks.take i) now).length + 1) c1)
          have hf : (rows L (ks.take (i + 1)) now).flatMap fcl = (rows L (ks.take i) now).flatMap fcl ++ fcl E := by rw [rows_some HKK.out HRA.out, List.flatMap_append]; simp
          have hlen : (rows L (ks.take (i + 1)) now).length = (rows L (ks.take i) now).length + 1 := by rw [rows_some HKK.out HRA.out]; simp
          have h3 := HS.out
          exact ⟨i + 1, .slice A1 ((rows L (ks.take i) now).length + 1) c1, by have := HI.out; have := HN.out; omega, by go_num, by rw [hf, hlen]; exact hM.own GO.out (fun q hq e => by have := own_base GO.out q hq; omega), blk_put G9.out 1 _ rfl, hM.blk G5.out (by omega), hM.blk G8.out (by omega), hM.after GB.out GB.out.size (fun q hq => by omega), Nat.le_trans GS.out hM.size⟩
    · obtain rfl : i = N := by have := HN.out; omega
      have hi' := hi
      obtain rfl : gk = 0 := by have := HN.out; omega
      have HI := Aside0.mk (show i = ks.length by omega)
      clear hi hi'
      go_wp2_with (first | (refine gate_ (.load 32 (.tmp 9)) rfl ?_; refine ev_load_row (.load 32 (.tmp 9)) rfl rfl 32 (.tmp 9) rfl (w.heap.size + 1 + 1) rfl 32 (ansV (.slice Av (rows L (ks.take i) now).length cv) false) _ B9.out Tryd.underlying32 rfl (by kernel_rfl) ?_) | (refine gate_ (.store 32 (.tmp 8) (.tmp 70)) rfl ?_; refine ev_store_row (.store 32 (.tmp 8) (.tmp 70)) rfl rfl rfl 32 (.tmp 8) (.tmp 70) rfl (w.heap.size + 1) (ansV (.slice Av (rows L (ks.take i) now).length cv) false) rfl rfl 32 A0 B8.out (by kernel_rfl) rfl (ansV_one _ rfl _) ?_; intro w_5 hw5 hm5; have HW5 := Aside0.mk hw5; have HM5 := Aside0.mk hm5; clear hw5 hm5))
      refine bodyPost_ret (results_cell_row rfl _ _ (w.heap.size + 1) 32 _ (0, 0) _ rfl HW5.out Tryd.underlying32 rfl (by kernel_rfl)) rfl ⟨_, rfl, ?_, HM5.out.after HB.out HB.out.size (fun q hq => by omega)⟩
      have ho := HO.out
      rw [List.take_of_length_le (by have := HI.out; omega)] at ho ⊢
      exact own_weaken (HM5.out.own ho (fun q hq e => by have := own_base ho q hq; omega)) (by omega)
set_option maxHeartbeats 8000000 in
set_option maxRecDepth 100000 in
theorem rapply_get2 (B m : Nat) (vm : Value) (L : List Ent) (r : Rq) (A : Option Addr) (cap : Nat) (ks : List ByteArray) (now ver : Int) (w : World) (h : Rm w B m vm L) (hl2 : L.length ≤ 1000000) (hks : Ks w A ks) (hl : ks.length ≤ 1000000) (hv : r.verb = 2) :
    Calls Tryd.prog 32 #[.pointer (some ⟨m, 0, none⟩), .agg (r.c (.slice A ks.length cap)), .int .i64 now, .int .i64 ver] w fun e w' => ∃ v, e = .returned (.agg (ansV v true)) ∧ w'.ownsRow w.heap.size 35 4 v (rows L ks now).length ((rows L ks now).flatMap fcl) ∧ Below w.heap.size w w' := by
  have e1 : (r.verb == 1) = false := by rw [hv]; rfl
  have e2 : (r.verb == 2) = true := by rw [hv]; rfl
  have HM := Aside0.mk h
  have HL := Aside0.mk hl2
  have HK := Aside0.mk hks
  have HLn := Aside0.mk hl
  obtain ⟨N, hN⟩ : ∃ N, N = ks.length := ⟨_, rfl⟩
  have HN := Aside0.mk hN
  have hl' : N ≤ 1000000 := by omega
  rw [← hN]
  clear h hks hl hl2 hv hN
  simp only [Rq.c]
  go_enter Tryd.func32, Tryd.ntmps32
  go_wp2
  go_loopg [10] N (fun R s wr => GetAt w L r A cap ks now true R s wr)
  case atStart =>
    rw [HN.out]
    have s1 : (w.alloc (.cells (r.c (.slice A ks.length cap)) 27)).heap.size = w.heap.size + 1 := by simp
    have s2 : ((w.alloc (.cells (r.c (.slice A ks.length cap)) 27)).alloc (.cells A0 32)).heap.size = w.heap.size + 1 + 1 := by simp
    refine ⟨0, .slice none 0 0, by omega, rfl, own_nil _ _ _ _, ?_, ?_, ?_, ?_, by simp⟩
    · show (((w.alloc (.cells (r.c (.slice A ks.length cap)) 27)).alloc (.cells A0 32)).alloc (.cells (ansV (.slice none 0 0) true) 32)).heap[w.heap.size + 1 + 1]? = _
      rw [← s2]
      exact blk_new _ _
    · exact blk_alloc (blk_alloc (blk_new w (.cells (r.c (.slice A ks.length cap)) 27)) (.cells A0 32)) _
    · show (((w.alloc (.cells (r.c (.slice A ks.length cap)) 27)).alloc (.cells A0 32)).alloc (.cells (ansV (.slice none 0 0) true) 32)).heap[w.heap.size + 1]? = _
      rw [← s1]
      exact blk_alloc (blk_new _ _) _
    · exact below_alloc (below_alloc (below_alloc (Below.refl _ _) _) _) _
  case round =>
    obtain ⟨i, v, hi, rfl, ho, b9, b5, b8, hB, hsz⟩ := hrel
    obtain ⟨Av, cv, rfl⟩ := own_slice ho
    have HO := Aside0.mk ho
    have B9 := Aside0.mk b9
    have B5 := Aside0.mk b5
    have B8 := Aside0.mk b8
    have HB := Aside0.mk hB
    have HS := Aside0.mk hsz
    have kk : wr.cell? ⟨w.heap.size, 1, none⟩ = some (.slice A N cap) := by rw [HN.out]; exact blk_cell b5 1
    clear ho b9 b5 b8 hB hsz
    by_cases hlt : i < N
    · obtain ⟨k, hk⟩ : ∃ k, ks[i]? = some k := ⟨_, List.getElem?_eq_getElem (by have := HN.out; omega)⟩
      obtain ⟨ad, rfl, hc⟩ := HK.out (fun e => by rw [e] at hk; cases hk)
      have ck : wr.cell? (ad.add i) = some (.string k) := pw_cell_below HB.out (hc i k hk)
      have HKK := Aside0.mk hk
      have r1 : decide ((i : Int) < (N : Int)) = true := decide_eq_true (by omega)
      have HI := Aside0.mk hi
      have HMr := Aside0.mk (HM.out.below HB.out)
      clear hc hk hi
      cases hT : isAt k now L
      · have HT := Aside0.mk hT
        clear hT
        go_wp2_with (go_at_call 47; (refine (at_calls B m _ L k now _ HMr.out HL.out).mono ?_); rintro e_1 w_1 ⟨rfl, hw3⟩; subst hw3; rw [HT.out])
        go_roundg (N - (i + 1))
        case measure => have := HI.out; have := HN.out; omega
        case rel => exact ⟨i + 1, .slice Av (rows L (ks.take i) now).length cv, by have := HI.out; have := HN.out; omega, by go_num, by rw [rows_none HKK.out (rowAt_none HT.out)]; exact HO.out, B9.out, B5.out, B8.out, HB.out, HS.out⟩
      · obtain ⟨E, hx, hke, hra⟩ := rowAt_some hT
        obtain ⟨b, c2, rfl, _⟩ := HMr.out.row.form (by have := (List.getElem?_eq_some_iff.1 hx).1; omega)
        have HT := Aside0.mk hT
        have HX := Aside0.mk hx
        have HRA := Aside0.mk hra
        have km : wr.cell? ⟨m, 0, none⟩ = some (.slice (some ⟨b, 0, none⟩) L.length c2) := blk_cell HMr.out.blk 0
        have ip : placeOf k L < L.length := (List.getElem?_eq_some_iff.1 hx).1
        clear hT hx hra hke
        have LE := Aside0.mk (show (rows L (ks.take i) now).length ≤ 1000000 from Nat.le_trans (rows_le _ _ _) (Nat.le_trans (List.length_take_le _ _) (by have := HN.out; omega)))
        go_wp2_with (first | (go_at_call 47; (refine (at_calls B m _ L k now _ HMr.out HL.out).mono ?_); rintro e_1 w_1 ⟨rfl, hw3⟩; subst hw3; rw [HT.out]) | (refine gate_ (.load 38 (.tmp 54)) rfl ?_; refine ev_load_mid (.load 38 (.tmp 54)) rfl rfl 38 (.tmp 54) rfl b (placeOf k L * 5) (by go_simp) (ecl E) _ (HMr.out.range (placeOf k L) E HX.out) Tryd.underlying38 rfl (by kernel_rfl) ?_) | (refine gate_ (.store 38 (.tmp 13) (.tmp 55)) rfl ?_; refine ev_store_row (.store 38 (.tmp 13) (.tmp 55)) rfl rfl rfl 38 (.tmp 13) (.tmp 55) rfl wr.heap.size E.c rfl rfl 38 E0 (blk_new wr _) (by kernel_rfl) rfl (ent_one _) ?_; intro w_1 hw1 hm1; have hb : Below wr.heap.size wr w_1 := (Mod.after (below_alloc (Below.refl wr.heap.size wr) (.cells E0 38)) (by simp) hm1 (fun q hq => by omega)); have k0 : w_1.cell? ⟨wr.heap.size, 0, none⟩ = some (.string E.key) := blk_cell hw1 0; have k1 : w_1.cell? ⟨wr.heap.size, 1, none⟩ = some (.int .i64 E.fl) := blk_cell hw1 1; have k3 : w_1.cell? ⟨wr.heap.size, 3, none⟩ = some (.string E.val) := blk_cell hw1 3; have k4 : w_1.cell? ⟨wr.heap.size, 4, none⟩ = some (.int .i64 E.cas) := blk_cell hw1 4; have hb9 := (hb.block _ (blk_lt B9.out)).trans B9.out; have c91 : w_1.cell? ⟨w.heap.size + 1 + 1, 1, none⟩ = some (.slice Av (rows L (ks.take i) now).length cv) := blk_cell hb9 1; have B9n := Aside0.mk (hb9); have B5n := Aside0.mk ((hb.block _ (blk_lt B5.out)).trans B5.out); have B8n := Aside0.mk ((hb.block _ (blk_lt B8.out)).trans B8.out); have HOn := Aside0.mk (pw_own_below HO.out hb); have HBn := Aside0.mk (HB.out.trans (hb.mono HB.out.size)); have HSn := Aside0.mk (Nat.le_trans HS.out hb.size); clear B9 B5 B8 HO HB HS; have B9 := B9n; clear B9n; have B5 := B5n; clear B5n; have B8 := B8n; clear B8n; have HO := HOn; clear HOn; have HB := HBn; clear HBn; have HS := HSn; clear HSn; clear hw1 hm1 hb hb9 km) | (refine gate_ (.call { callee := .builtin .append, args := #[.tmp 57, .tmp 67], argTypes := #[29, 29] }) rfl ?_; refine ev_append (.tmp 57) (.tmp 67) 29 35 rfl rfl (w.heap.size + 3) _ 4 48 Tryd.underlying29 info35 rfl (by decide) (.slice Av (rows L (ks.take i) now).length cv) (rows L (ks.take i) now).length ((rows L (ks.take i) now).flatMap fcl) rfl (own_alloc HO.out (.cells (fcl E).toArray 35)) ⟨w_1.heap.size, 0, none⟩ 1 1 (fcl E) rfl rfl (fun j u hu => by rw [add_plain]; exact (blk_cell (blk_new w_1 (.cells (fcl E).toArray 35)) _).trans (by simpa using hu)) (fcl_one E) (by unfold maxLen; have := LE.out; omega) (by have := LE.out; omega) (by simp; have := HS.out; omega) ?_; intro v1 w_3 ho1 hm1 _ _; obtain ⟨A1, c1, rfl⟩ := own_slice ho1; have hne : ¬ some (w.heap.size + 1 + 1) = (Value.slice Av (rows L (ks.take i) now).length cv).ownBlock := (fun e => by have := own_base HO.out _ e.symm; omega); have hb9 := hm1.blk (blk_alloc B9.out (.cells (fcl E).toArray 35)) hne; have d1 : w_3.cell? ⟨w.heap.size + 1 + 1, 1, none⟩ = some (.slice Av (rows L (ks.take i) now).length cv) := blk_cell hb9 1; have f1 := blk_frozen hb9 1; have G9 := Aside0.mk hb9; have G5 := Aside0.mk (hm1.blk (blk_alloc B5.out (.cells (fcl E).toArray 35)) (fun e => by have := own_base HO.out _ e.symm; omega)); have G8 := Aside0.mk (hm1.blk (blk_alloc B8.out (.cells (fcl E).toArray 35)) (fun e => by have := own_base HO.out _ e.symm; omega)); have GO := Aside0.mk ho1; have GB := Aside0.mk (hm1.after (below_step HB.out (below_alloc (Below.refl _ _) (.cells (fcl E).toArray 35))) (Nat.le_trans HB.out.size (by simp)) (fun q hq => by have := own_base HO.out _ hq.symm; omega)); have GS := Aside0.mk (Nat.le_trans HS.out (Nat.le_trans (show w_1.heap.size ≤ (w_1.alloc (.cells (fcl E).toArray 35)).heap.size by simp) hm1.size)); clear ho1 hm1 hne hb9 c91))
        go_roundg (N - (i + 1))
        case measure => have := HI.out; have := HN.out; omega
        case rel =>
          have hM := Mod.setCell (p := ⟨w.heap.size + 1 + 1, 1, none⟩) (Mod.refl (fun q => q = w.heap.size + 1 + 1) w_3) (.inl rfl) (.slice A1 ((rows L (ks.take i) now).length + 1) c1)
          have hf : (rows L (ks.take (i + 1)) now).flatMap fcl = (rows L (ks.take i) now).flatMap fcl ++ fcl E := by rw [rows_some HKK.out HRA.out, List.flatMap_append]; simp
          have hlen : (rows L (ks.take (i + 1)) now).length = (rows L (ks.take i) now).length + 1 := by rw [rows_some HKK.out HRA.out]; simp
          have h3 := HS.out
          exact ⟨i + 1, .slice A1 ((rows L (ks.take i) now).length + 1) c1, by have := HI.out; have := HN.out; omega, by go_num, by rw [hf, hlen]; exact hM.own GO.out (fun q hq e => by have := own_base GO.out q hq; omega), blk_put G9.out 1 _ rfl, hM.blk G5.out (by omega), hM.blk G8.out (by omega), hM.after GB.out GB.out.size (fun q hq => by omega), Nat.le_trans GS.out hM.size⟩
    · obtain rfl : i = N := by have := HN.out; omega
      have hi' := hi
      obtain rfl : gk = 0 := by have := HN.out; omega
      have HI := Aside0.mk (show i = ks.length by omega)
      clear hi hi'
      go_wp2_with (first | (refine gate_ (.load 32 (.tmp 9)) rfl ?_; refine ev_load_row (.load 32 (.tmp 9)) rfl rfl 32 (.tmp 9) rfl (w.heap.size + 1 + 1) rfl 32 (ansV (.slice Av (rows L (ks.take i) now).length cv) true) _ B9.out Tryd.underlying32 rfl (by kernel_rfl) ?_) | (refine gate_ (.store 32 (.tmp 8) (.tmp 70)) rfl ?_; refine ev_store_row (.store 32 (.tmp 8) (.tmp 70)) rfl rfl rfl 32 (.tmp 8) (.tmp 70) rfl (w.heap.size + 1) (ansV (.slice Av (rows L (ks.take i) now).length cv) true) rfl rfl 32 A0 B8.out (by kernel_rfl) rfl (ansV_one _ rfl _) ?_; intro w_5 hw5 hm5; have HW5 := Aside0.mk hw5; have HM5 := Aside0.mk hm5; clear hw5 hm5))
      refine bodyPost_ret (results_cell_row rfl _ _ (w.heap.size + 1) 32 _ (0, 0) _ rfl HW5.out Tryd.underlying32 rfl (by kernel_rfl)) rfl ⟨_, rfl, ?_, HM5.out.after HB.out HB.out.size (fun q hq => by omega)⟩
      have ho := HO.out
      rw [List.take_of_length_le (by have := HI.out; omega)] at ho ⊢
      exact own_weaken (HM5.out.own ho (fun q hq e => by have := own_base ho q hq; omega)) (by omega)
end Go.Proofs.YtepklobkppdliaaDoor.Rm

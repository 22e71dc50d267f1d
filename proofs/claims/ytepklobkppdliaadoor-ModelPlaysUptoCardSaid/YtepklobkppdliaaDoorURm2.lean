/- The document model: Forget. -/
import Derived.Test.YtepklobkppdliaaDoorURm1
import Derived.Deep.LoopGhost
import Derived.WalkLawsBesides
import Derived.BigRegion
namespace Go.Proofs.YtepklobkppdliaaDoor.Rm
open Go.RowKit Go.Proofs.YtepklobkppdliaaDoorW.PrintWords Go.Proofs.YtepklobkppdliaaDoorW.PrintLast Go.Proofs.YtepklobkppdliaaDoorW.PrintMore Go.Proofs.YtepklobkppdliaaDoor.Lib Go.Proofs.YtepklobkppdliaaDoor.Open Go.Proofs.YtepklobkppdliaaDoor.Md
section
variable {w W w1 : World} {B m : Nat} {v v1 : Value} {L ys : List Ent}
theorem Rm.mod {S : Nat → Prop} (h : Rm W B m v L) (hm : Mod S W w1) (hg : ¬ S m) (hv : ∀ k, v.ownBlock = some k → ¬ S k) : Rm w1 B m v L :=
  ⟨hm.blk h.blk hg, h.ge, hm.own h.row hv⟩
theorem Rm.mod1 {gb : Nat} (h : Rm W B m v L) (hm : Mod (fun k => k = gb) W w1) (hg : m ≠ gb) (hv : v.ownBlock ≠ some gb) : Rm w1 B m v L :=
  h.mod hm hg (fun k hk hS => hv (by rw [hk, hS]))
theorem Rm.put {n1 : Nat} {cs : List Value} (h : w1.ownsRow B 38 5 v1 n1 cs) (hb : w1.heap[m]? = some (.cells #[v] 75 (0, 0))) (ge : B ≤ m) (hn : ys.length = n1) (hc : ys.flatMap ecl = cs) : Rm (w1.setCell ⟨m, 0, none⟩ v1) B m v1 ys := by
  subst hn hc
  exact ⟨blk_put hb 0 v1 rfl, ge, own_setCell h (own_ne h hb (by decide)) v1⟩
theorem Rm.vlt (h : Rm W B m v L) : ∀ k, v.ownBlock = some k → k < W.heap.size := fun k hk => own_lt h.row k hk
theorem Rm.row_ne (h : Rm W B m v L) : v.ownBlock ≠ some m := fun e => own_ne h.row h.blk (by decide) e.symm
end
theorem take_some {α : Type} {l : List α} {n j : Nat} {u : α} (h : (l.take n)[j]? = some u) : l[j]? = some u := by
  rw [List.getElem?_take] at h
  by_cases c : j < n
  · rwa [if_pos c] at h
  · rw [if_neg c] at h; cases h
theorem ecls_len : ∀ L : List Ent, (L.flatMap ecl).length = L.length * 5
  | [] => rfl
  | e :: L => by rw [List.flatMap_cons, List.length_append, ecls_len L, ecl_len, List.length_cons]; omega
theorem ecls_one : ∀ L : List Ent, ∀ u ∈ L.flatMap ecl, u.oneCell' = true := fun L u hu => by
  obtain ⟨e, _, he⟩ := List.mem_flatMap.1 hu
  exact ecl_one e u he
theorem ecls_take : ∀ (L : List Ent) (k : Nat), (L.flatMap ecl).take (k * 5) = (L.take k).flatMap ecl
  | [], k => by simp
  | e :: L, 0 => by simp
  | e :: L, k + 1 => by
    rw [List.flatMap_cons, List.take_succ_cons, List.flatMap_cons, ← ecls_take L k, show (k + 1) * 5 = (ecl e).length + k * 5 by rw [ecl_len]; omega, List.take_length_add_append]
theorem ecls_drop : ∀ (L : List Ent) (k : Nat), (L.flatMap ecl).drop (k * 5) = (L.drop k).flatMap ecl
  | [], k => by simp
  | e :: L, 0 => by simp
  | e :: L, k + 1 => by
    rw [List.flatMap_cons, List.drop_succ_cons, ← ecls_drop L k, show (k + 1) * 5 = (ecl e).length + k * 5 by rw [ecl_len]; omega, List.drop_length_add_append]
/-- The place of a key's own entry: the first that has the key. -/
def findOf (key : ByteArray) : List Ent → Nat
  | [] => 0
  | e :: l => if (e.key.toList == key.toList) = true then 0 else findOf key l + 1
theorem find_le (key : ByteArray) : ∀ L, findOf key L ≤ L.length
  | [] => Nat.le_refl _
  | e :: l => by
    unfold findOf
    split
    · omega
    · have := find_le key l; simp; omega
theorem find_at {key : ByteArray} : ∀ (L : List Ent) (i : Nat), (∀ j x, j < i → L[j]? = some x → (x.key.toList == key.toList) = false) → i ≤ L.length → (∀ x, L[i]? = some x → (x.key.toList == key.toList) = true) → findOf key L = i
  | [], i, _, h2, _ => by simp at h2; subst h2; rfl
  | e :: l, 0, _, _, h3 => by
    unfold findOf
    rw [if_pos (h3 e rfl)]
  | e :: l, i + 1, h1, h2, h3 => by
    unfold findOf
    rw [if_neg (by rw [h1 0 e (by omega) rfl]; decide), find_at l i (fun j x hj hx => h1 (j + 1) x (by omega) (by simpa using hx)) (by simpa using h2) (fun x hx => h3 x (by simpa using hx))]
/-- A key's entry goes. -/
def forgetL (key : ByteArray) (L : List Ent) : List Ent := L.eraseIdx (findOf key L)
set_option maxHeartbeats 8000000 in
set_option maxRecDepth 100000 in
theorem forget_calls (B m : Nat) (v : Value) (L : List Ent) (key : ByteArray) (w : World) (h : Rm w B m v L) (hl : L.length ≤ 1000000) :
    Calls Tryd.prog 31 #[.pointer (some ⟨m, 0, none⟩), .string key] w fun e w' => e = .returned (.bool (decide (findOf key L < L.length))) ∧
      ∃ v', Rm w' B m v' (forgetL key L) ∧ Mod (fun k => k = m) w w' ∧ ∀ q, v'.ownBlock = some q → (v.ownBlock = some q ∨ w.heap.size ≤ q) := by
  obtain ⟨A, c, rfl⟩ := own_slice h.row
  have hc0 : w.cell? ⟨m, 0, none⟩ = some (.slice A L.length c) := blk_cell h.blk 0
  have HR := Aside0.mk h
  obtain ⟨N, hN⟩ : ∃ N, N = L.length := ⟨_, rfl⟩
  have HN := Aside0.mk hN
  have hl1 : (N : Int) ≤ 1000000 := by omega
  rw [← hN] at hc0
  clear h hl hN
  go_enter Tryd.func31, Tryd.ntmps31
  go_wp2
  go_loopg [5] N (fun R s wr => ∃ i : Nat, i + R = L.length ∧ s = .int .i64 (i : Int) ∧ (∀ j x, j < i → L[j]? = some x → (x.key.toList == key.toList) = false) ∧ wr = w)
  case atStart => exact ⟨0, by rw [HN.out]; omega, rfl, fun j x hj => absurd hj (Nat.not_lt_zero _), rfl⟩
  case round =>
    obtain ⟨i, hi, rfl, hall, rfl⟩ := hrel
    have HI := Aside0.mk hi
    have HA := Aside0.mk hall
    by_cases hlt : i < N
    · obtain ⟨x, hx⟩ : ∃ x, L[i]? = some x := ⟨_, List.getElem?_eq_getElem (by have := HN.out; omega)⟩
      obtain ⟨b, c2, e, hbb⟩ := HR.out.row.form (by have := HN.out; omega)
      injection e with e1 e2 e3
      subst e1 e3
      have hr := HR.out.range i x hx
      have ck : wr.cell? ⟨b, i * 5, none⟩ = some (.string x.key) := hr 0 _ rfl
      have r1 : decide ((i : Int) < (N : Int)) = true := decide_eq_true (by omega)
      have r2 : (i : Int) < (N : Int) := by omega
      have r3 : ((i : Int) == (N : Int)) = false := by simp; omega
      have HX := Aside0.mk hx
      have HBB := Aside0.mk hbb
      cases hk : (x.key.toList == key.toList)
      · have HA2 := Aside0.mk (show ∀ j y, j < i + 1 → L[j]? = some y → (y.key.toList == key.toList) = false from fun j y hj hy => by
          by_cases e : j = i
          · subst e
            rw [HX.out] at hy
            rw [← Option.some.inj hy]
            exact hk
          · exact HA.out j y (by omega) hy)
        clear hr hi hall hx hlt hbb e2
        go_wp2
        go_roundg (N - (i + 1))
        case measure => have := HI.out; have := HN.out; omega
        case rel => exact ⟨i + 1, by have := HI.out; have := HN.out; omega, by go_num, HA2.out, rfl⟩
      · have HP := Aside0.mk (show findOf key L = i from find_at L i HA.out (by have := HI.out; omega) (fun y hy => by rw [HX.out] at hy; rw [← Option.some.inj hy]; exact hk))
        have HT := Aside0.mk hlt
        clear hr hi hall hx hlt hbb e2
        have hcl := ecls_len L
        have hone := ecls_one L
        have NL := HN.out
        have bm := HR.out.row_ne
        have hB : B ≤ b := own_base HR.out.row b rfl
        have gW := HR.out.lt
        have bW := HR.out.vlt b rfl
        have iN := HT.out
        have hNL : N ≤ 1000000 := by omega
        go_wp2_with fail
        have E0 : Aside0 ((wr.alloc (.cells #[] 38)).drew.heap[wr.heap.size]? = some (.cells #[] 38 (0, 0))) := ⟨blk_new wr _⟩
        have E1 : Aside0 ((wr.alloc (.cells #[] 38)).drew.ownsRow wr.heap.size 38 5 (.slice (some ⟨wr.heap.size, 0, none⟩) 0 0) 0 []) := ⟨own_empty (Nat.le_refl _) E0.out⟩
        have E2 : Aside0 (Rm (wr.alloc (.cells #[] 38)).drew B m (Value.slice (some ⟨b, 0, none⟩) L.length c) L) := ⟨⟨blk_alloc HR.out.blk _, HR.out.ge, HR.out.row.alloc _⟩⟩
        rw [← NL] at E2
        have hca : (wr.alloc (.cells #[] 38)).cell? ⟨m, 0, none⟩ = some (Value.slice (some ⟨b, 0, none⟩) N c) := (blk_cell E2.out.blk 0).trans (show #[Value.slice (some ⟨b, 0, none⟩) N c][0]? = some (Value.slice (some ⟨b, 0, none⟩) N c) from rfl)
        have E3 : Aside0 (∀ j u, ((L.flatMap ecl).take (i * 5))[j]? = some u → (wr.alloc (.cells #[] 38)).drew.cell? ((⟨b, 0, none⟩ : Addr).add j) = some u) := ⟨fun j u hu => news_of_own (by have := E2.out.row; rw [← NL] at this; exact this) j u (take_some hu)⟩
        have n1 : Aside0 (((L.flatMap ecl).take (i * 5)).length = i * 5) := ⟨by rw [List.length_take, hcl]; omega⟩
        have n2 : Aside0 (((L.flatMap ecl).drop ((i + 1) * 5)).length = (N - (i + 1)) * 5) := ⟨by rw [List.length_drop, hcl]; omega⟩
        have o1 : Aside0 (∀ u ∈ (L.flatMap ecl).take (i * 5), u.oneCell' = true) := ⟨fun u hu => hone u (List.mem_of_mem_take hu)⟩
        have o2 : Aside0 (∀ u ∈ (L.flatMap ecl).drop ((i + 1) * 5), u.oneCell' = true) := ⟨fun u hu => hone u (List.mem_of_mem_drop hu)⟩
        have b1 : Aside0 (0 + i ≤ maxLen) := ⟨by unfold maxLen; omega⟩
        have b2 : Aside0 ((0 + i) * 56 ≤ 140737488355328) := ⟨by omega⟩
        have b3 : Aside0 (i + (N - (i + 1)) ≤ maxLen) := ⟨by unfold maxLen; omega⟩
        have b4 : Aside0 ((i + (N - (i + 1))) * 56 ≤ 140737488355328) := ⟨by omega⟩
        have b5 : Aside0 (wr.heap.size ≤ (wr.alloc (.cells #[] 38)).drew.heap.size) := ⟨by show wr.heap.size ≤ (wr.alloc (.cells #[] 38)).heap.size; simp⟩
        have q1 : Aside0 (m ≠ wr.heap.size) := ⟨by omega⟩
        have q5 : Aside0 (m ≠ wr.heap.size + 1) := ⟨by omega⟩
        have q2 : Aside0 (b ≠ wr.heap.size) := ⟨by omega⟩
        have x1 : IntKind.i64.wrap ((i : Int) + 1) = (i : Int) + 1 := by rw [IntKind.wrap_i64]; omega
        have x3 : ((i : Int) + 1).toNat = i + 1 := by omega
        have x4 : (0 : Int) ≤ (i : Int) + 1 := by omega
        have hNc : N ≤ c := by
          rcases HR.out.row.2 with ⟨h, _⟩ | ⟨b', c', cur, h, hB, hblk, hnc, hcm, hcs, htk⟩
          · simp at h
          · simp only [Value.slice.injEq, Option.some.injEq, Addr.mk.injEq, and_true, true_and] at h
            obtain ⟨_, rfl⟩ := h
            omega
        have x5 : i ≤ c := by omega
        have x8 : (i : Int) + 1 ≤ (N : Int) := by omega
        have x6 : i + 1 ≤ c := by omega
        have x7 : i + 1 ≤ N := by omega
        obtain ⟨AD, hA, hsrc⟩ : ∃ AD : Addr, (if c = i + 1 then some (⟨b, 0, none⟩ : Addr) else some ⟨b, (i + 1) * 5, none⟩) = some AD ∧ Aside0 (∀ W1 : World, Rm W1 B m (Value.slice (some ⟨b, 0, none⟩) N c) L → ∀ j u, ((L.flatMap ecl).drop ((i + 1) * 5))[j]? = some u → W1.cell? (AD.add j) = some u) := by
          by_cases h : c = i + 1
          · refine ⟨⟨b, 0, none⟩, by simp [h], ⟨fun W1 _ t u hu => ?_⟩⟩
            have h0 : ((L.flatMap ecl).drop ((i + 1) * 5)).length = 0 := by rw [n2.out]; omega
            rw [List.length_eq_zero_iff.1 h0] at hu
            simp at hu
          · refine ⟨⟨b, (i + 1) * 5, none⟩, by simp [h], ⟨fun W1 hW1 t u hu => ?_⟩⟩
            have ht := (List.getElem?_eq_some_iff.1 hu).1
            rw [n2.out] at ht
            have hW2 := hW1.row
            rw [← NL] at hW2
            rw [Addr.add_mid, hW2.cellAt _ (by omega)]
            rw [List.getElem?_drop] at hu
            exact hu
        clear hcl hone hB gW bW iN hNL hNc bm
        have NLa := Aside0.mk NL
        clear NL
        go_region_law (first | (refine st_append (W := (wr.alloc (.cells #[] 38)).drew) (.tmp 35) (.tmp 41) 73 38 rfl rfl wr.heap.size _ 5 56 Tryd.underlying73 info38 rfl (by decide) (.slice (some ⟨wr.heap.size, 0, none⟩) 0 0) 0 [] rfl E1.out ⟨b, 0, none⟩ i c ((L.flatMap ecl).take (i * 5)) rfl n1.out E3.out o1.out b1.out b2.out b5.out ?_; intro v1 w1 ho1 hm1 _ hat1; rw [Nat.zero_add] at ho1; have F1 := Aside0.mk ho1; have F2 := Aside0.mk hm1; have F3 := Aside0.mk (show v1.ownBlock = some wr.heap.size ∨ v1.ownBlock = some (wr.heap.size + 1) from hat1.imp id (fun e => e.trans (by simp))); have F4 := Aside0.mk (E2.out.mod hm1 (fun e => q1.out (Option.some.inj e)) (fun q hq e => q2.out ((Option.some.inj hq).trans (Option.some.inj e)))); have hc1 := (blk_cell F4.out.blk 0).trans (show #[Value.slice (some ⟨b, 0, none⟩) N c][0]? = some (Value.slice (some ⟨b, 0, none⟩) N c) from rfl); have F5 := Aside0.mk (show wr.heap.size ≤ w1.heap.size from Nat.le_trans b5.out hm1.size); clear ho1 hm1 hat1) | (refine st_append (W := w1) (.tmp 42) (.tmp 49) 73 38 rfl rfl wr.heap.size _ 5 56 Tryd.underlying73 info38 rfl (by decide) v1 i _ rfl F1.out AD (N - (i + 1)) (c - (i + 1)) ((L.flatMap ecl).drop ((i + 1) * 5)) rfl n2.out (hsrc.out w1 F4.out) o2.out b3.out b4.out F5.out ?_; intro v2 w2 ho2 hm2 _ hat2; obtain ⟨A2, c2, rfl⟩ := own_slice ho2; have J1 := Aside0.mk ho2; have J2 := Aside0.mk (show Mod (fun k => k = wr.heap.size ∨ k = wr.heap.size + 1) w1 w2 from hm2.mono (fun q hq => F3.out.elim (fun e => .inl (Option.some.inj (hq.trans e))) (fun e => .inr (Option.some.inj (hq.trans e))))); have J3 := Aside0.mk hat2; have hb2 := J2.out.blk F4.out.blk (fun e => e.elim q1.out q5.out); have J4 := Aside0.mk hb2; have hcs := (blk_cell hb2 0).trans (show #[Value.slice (some ⟨b, 0, none⟩) N c][0]? = some (Value.slice (some ⟨b, 0, none⟩) N c) from rfl); have hfs := blk_frozen hb2 0; clear ho2 hm2 hat2 hb2))
        all_goals
          have W8 := Aside0.mk (show Mod (fun k => k = m ∨ wr.heap.size ≤ k) wr (w2.setCell ⟨m, 0, none⟩ (Value.slice A2 (i + (N - (i + 1))) c2)) from ((((Mod.of_below (Below.refl wr.heap.size wr) _).alloc (.cells #[] 38)).drew.trans F2.out (fun q hq => .inr (by have := Option.some.inj hq; rw [this]; exact Nat.le_refl _))).trans J2.out (fun q hq => .inr (hq.elim (fun e => by rw [e]; exact Nat.le_refl _) (fun e => by rw [e]; exact Nat.le_succ _)))).setCell (.inl (.inl rfl)) _)
          have FIN := Aside0.mk (Rm.put (own_weaken J1.out (Nat.le_of_lt (Nat.lt_of_le_of_lt HR.out.ge HR.out.lt))) (J2.out.blk F4.out.blk (fun e => e.elim q1.out q5.out)) HR.out.ge (ys := L.eraseIdx i) (by rw [List.length_eraseIdx_of_lt (List.getElem?_eq_some_iff.1 HX.out).1]; have := HT.out; have := HN.out; omega) (by rw [List.nil_append, ecls_take, ecls_drop, ← List.flatMap_append, List.eraseIdx_eq_take_drop_succ]))
          clear hca hc0 hc1 hcs hfs
          go_wp2
          go_ret
          refine ⟨by rw [HP.out]; have := HT.out; have := HN.out; simp; omega, _, ?_, W8.out.tight, fun q hq => .inr (own_base J1.out q hq)⟩
          unfold forgetL
          rw [HP.out]
          exact FIN.out
    · obtain rfl : i = N := by have := HN.out; omega
      have r1 : decide ((i : Int) < (i : Int)) = false := decide_eq_false (by omega)
      have HP := Aside0.mk (show findOf key L = i from find_at L i HA.out (by have := HN.out; omega) (fun y hy => by have := (List.getElem?_eq_some_iff.1 hy).1; have := HN.out; omega))
      clear hi hall hlt
      go_wp2
      go_ret
      refine ⟨by rw [HP.out, HN.out]; simp, _, ?_, Mod.of_below (Below.refl _ _) _, fun q hq => .inl hq⟩
      unfold forgetL
      rw [HP.out, List.eraseIdx_of_length_le (by have := HN.out; omega)]
      exact HR.out
end Go.Proofs.YtepklobkppdliaaDoor.Rm

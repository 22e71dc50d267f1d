/- The document model: set. -/
import Derived.Test.YtepklobkppdliaaDoorURm2
import Derived.Test.YtepklobkppdliaaDoorUCh1
namespace Go.Proofs.YtepklobkppdliaaDoor.Rm
open Go.RowKit Go.Proofs.YtepklobkppdliaaDoorW.PrintWords Go.Proofs.YtepklobkppdliaaDoorW.PrintLast Go.Proofs.YtepklobkppdliaaDoorW.PrintMore Go.Proofs.YtepklobkppdliaaDoor.Lib Go.Proofs.YtepklobkppdliaaDoor.Open Go.Proofs.YtepklobkppdliaaDoor.Md
theorem run_via2 {P : Program} {o : Oper} {a : Act} {w : World} {x y : Operand} {r : Result Next} (f : Operand → Value) (ho : o.op.operands = #[x, y]) (hsel : ∀ cs b, o.op ≠ .select cs b) (hx : a.eval x = f x) (hy : a.eval y = f y) (h : (execOp f o).run P w = r) : (execOp a.eval o).run P w = r := by
  rw [execOp_congr (ρ' := f) o hsel (fun q hq => by rw [ho] at hq; simp at hq; rcases hq with rfl | rfl; exact hx; exact hy)]
  exact h
def depsUp (n : Nat) (o : Oper) : Bool := (List.range n).all fun j => o.after.toList.any fun e => Region.binds .any e && e.on == j
theorem deps_all {o : Oper} {S : Array Bool} (h : depsUp 19 o = true) (hd : Ev.Deps .any o S) : ∀ j, j ≤ 18 → S.getD j false = true := fun j hj => by
  obtain ⟨e, he, h2⟩ := List.any_eq_true.1 (List.all_eq_true.1 h j (List.mem_range.2 (by omega)))
  rw [Bool.and_eq_true, beq_iff_eq] at h2
  rw [← h2.2]
  exact hd e (Array.mem_toList_iff.1 he) h2.1
/-- A key's entry is there. -/
def setL (e : Ent) (L : List Ent) : List Ent := (forgetL e.key L).take (placeOf e.key (forgetL e.key L)) ++ e :: (forgetL e.key L).drop (placeOf e.key (forgetL e.key L))
set_option maxHeartbeats 16000000 in
set_option maxRecDepth 100000 in
theorem set_calls (B m : Nat) (v : Value) (L0 : List Ent) (e : Ent) (w : World) (h : Rm w B m v L0) (hl : L0.length ≤ 1000000) :
    Calls Tryd.prog 48 #[.pointer (some ⟨m, 0, none⟩), .agg (ecl e).toArray] w fun r w' => r = .returned (.tuple #[]) ∧
      ∃ v', Rm w' B m v' (setL e L0) ∧ Mod (fun k => k = m) w w' ∧ ∀ q, v'.ownBlock = some q → w.heap.size ≤ q := by
  have HR0 := Aside0.mk h
  have HL := Aside0.mk hl
  clear h hl
  go_enter Tryd.func48, Tryd.ntmps48
  go_wp2_with (first | (refine gate_ (.box 38 (.tmp 1)) rfl ?_; refine box_event ?hg (N := 3) ?hd (cs := (ecl e).toArray) (t := 38) ?hr ?_; (case hd => rfl); (case hg => rfl); (case hr => first | (go_simp; done) | (go_simp; rfl)); intro g hgb w_1 hbox hb; have K1 := Aside0.mk hbox; have HB1 := Aside0.mk hb; have HG := Aside0.mk hgb; have k0 : w_1.cell? ⟨g, 0, none⟩ = some (.string e.key) := blk_cell hbox 0; clear hgb hbox hb) | (go_at_call 31; (refine (forget_calls B m v L0 e.key _ (HR0.out.below HB1.out) HL.out).mono ?_); rintro e_1 w_2 ⟨rfl, v2, hR2, hm2, hq2⟩; have HR := Aside0.mk hR2; have M2 := Aside0.mk hm2; have NG := Aside0.mk (show ¬ g = m by have := HR0.out.lt; rw [HG.out]; omega); have K := Aside0.mk (hm2.blk K1.out NG.out); have k0 : w_2.cell? ⟨g, 0, none⟩ = some (.string e.key) := blk_cell K.out 0; have HL2 := Aside0.mk (show (forgetL e.key L0).length ≤ 1000000 from Nat.le_trans (List.length_eraseIdx_le _ _) HL.out); clear hR2 hm2 hq2) | (go_at_call 47; (refine (at_calls B m v2 (forgetL e.key L0) e.key 0 _ HR.out HL2.out).mono ?_); rintro e_1 w_3 ⟨rfl, hw3⟩; subst hw3))
  obtain ⟨L, hL⟩ : ∃ L, L = forgetL e.key L0 := ⟨_, rfl⟩
  rw [← hL] at HR HL2
  rw [← hL]
  obtain ⟨i, hi⟩ : ∃ i, i = placeOf e.key L := ⟨_, rfl⟩
  rw [← hi]
  obtain ⟨W, rfl⟩ : ∃ W : World, W = w_2 := ⟨_, rfl⟩
  have HS := Aside0.mk (show setL e L0 = L.take i ++ e :: L.drop i by unfold setL; rw [hi, hL])
  have HI := Aside0.mk (show i ≤ L.length by rw [hi]; exact place_le _ _)
  have MW := Aside0.mk (show Mod (fun k => k = m ∨ w.heap.size ≤ k) w W from (Mod.of_below HB1.out _).trans M2.out (fun q hq => .inl (.inl hq)))
  have SZ := Aside0.mk (Nat.le_trans HB1.out.size M2.out.size)
  have HBW := Aside0.mk (show B ≤ W.heap.size by have h1 := HR.out.ge; have h2 := HR.out.lt; omega)
  have HM := Aside0.mk HR.out.lt
  clear hL hi k0
  obtain ⟨A, c, rfl⟩ := own_slice HR.out.row
  rcases HR.out.row.2 with ⟨hA, hn⟩ | ⟨b, c2, cur, hA, hB, hblk, hnc, hcm, hcs, htk⟩
  · obtain ⟨rfl, _, rfl⟩ := Value.slice.inj hA
    obtain rfl : L = [] := List.eq_nil_of_length_eq_zero hn
    obtain rfl : i = 0 := by have := HI.out; simpa using this
    have N1 : Aside0 (([] : List Value).length = 0 * 5) := ⟨rfl⟩
    have N3 := N1
    have O1 : Aside0 (∀ u ∈ ([] : List Value), u.oneCell' = true) := ⟨fun u hu => by cases hu⟩
    have O3 := O1
    have B1 : Aside0 (0 + 0 ≤ maxLen) := ⟨by decide⟩
    have B2 : Aside0 ((0 + 0) * 56 ≤ 140737488355328) := ⟨by decide⟩
    have B3 : Aside0 (0 + 1 ≤ maxLen) := ⟨by decide⟩
    have B4 : Aside0 ((0 + 1) * 56 ≤ 140737488355328) := ⟨by decide⟩
    have B5 : Aside0 (0 + 1 + 0 ≤ maxLen) := ⟨by decide⟩
    have B6 : Aside0 ((0 + 1 + 0) * 56 ≤ 140737488355328) := ⟨by decide⟩
    clear hA hn
    refine Ev.region_gh (fun γ => [(some 17, .pointer (some ⟨m, 0, none⟩)), (some 18, γ.v0), (some 19, .pointer (some ⟨m, 0, none⟩)), (some 20, .pointer (some ⟨m, 0, none⟩)), (some 21, .pointer (some ⟨m, 0, none⟩)), (some 22, .slice none 0 0), (some 23, (.int .i64 0)), (some 24, .slice none 0 0), (some 25, γ.v1), (some 26, .agg (ecl e).toArray), (some 27, .slice (some ⟨γ.lt, 0, none⟩) 1 1), (some 28, γ.v2), (some 29, .pointer (some ⟨m, 0, none⟩)), (some 30, .pointer (some ⟨m, 0, none⟩)), (some 31, .pointer (some ⟨m, 0, none⟩)), (some 32, .slice none 0 0), (some 33, (.int .i64 0)), (some 34, .slice none 0 0), (some 35, γ.v3), (some 36, .pointer (some ⟨m, 0, none⟩)), (some 37, .pointer (some ⟨m, 0, none⟩)), (none, undef)]) (Chain W m (.slice none 0 0) 0 0 [] (ecl e) []) ⟨undef, undef, undef, undef, 0⟩ (by kernel_rfl) (by kernel_rfl) ⟨fun _ => rfl, by decide, rfl⟩ (chain_start HR.out.blk) (fun hF => ?_) (fun γ w' hI => ?_)
    · refine Ev.steps_cons (chain_pure hF rfl rfl (by kernel_rfl) (fun _ _ h => by cases h) (fun γ => .pointer (some ⟨m, 0, none⟩)) (fun _ => rfl) (by decide) (fun γ w2 => (by kernel_rfl))) ?_
      refine Ev.steps_cons (chain_new hF rfl rfl (by kernel_rfl) (fun _ _ h => by cases h) (fun _ => rfl) (fun γ u j hj => ?a1) (fun γ w2 => by kernel_rfl)) ?_
      case a1 => match j with | 0 | 2 | 3 | 4 | 5 | 6 | 7 | 8 | 9 | 10 | 11 | 12 | 13 | 14 | 15 | 16 | 17 | 18 | 19 | 20 | 21 | j + 22 => rfl | 1 => exact absurd rfl hj
      refine Ev.steps_cons (chain_pure hF rfl rfl (by kernel_rfl) (fun _ _ h => by cases h) (fun γ => .pointer (some ⟨m, 0, none⟩)) (fun _ => rfl) (by decide) (fun γ w2 => (by kernel_rfl))) ?_
      refine Ev.steps_cons (chain_pure hF rfl rfl (by kernel_rfl) (fun _ _ h => by cases h) (fun γ => .pointer (some ⟨m, 0, none⟩)) (fun _ => rfl) (by decide) (fun γ w2 => (by exact Ev.run_via (v := .pointer (some ⟨m, 0, none⟩)) rfl (fun _ _ h => by cases h) (by kernel_rfl) (by kernel_rfl)))) ?_
      refine Ev.steps_cons (chain_pure hF rfl rfl (by kernel_rfl) (fun _ _ h => by cases h) (fun γ => .pointer (some ⟨m, 0, none⟩)) (fun _ => rfl) (by decide) (fun γ w2 => (by exact Ev.run_via (v := .pointer (some ⟨m, 0, none⟩)) rfl (fun _ _ h => by cases h) (by kernel_rfl) (by kernel_rfl)))) ?_
      refine Ev.steps_cons (chain_read hF rfl rfl (by kernel_rfl) (fun _ _ h => by cases h) (fun γ => .slice none 0 0) (fun _ => rfl) (by decide) (by decide) (fun γ w2 hm hc => (by have c0 : w2.cell? ⟨m, 0, none⟩ = some (.slice none 0 0) := blk_cell hc 0; exact Ev.run_via (v := .pointer (some ⟨m, 0, none⟩)) rfl (fun _ _ h => by cases h) (by kernel_rfl) (by go_simp)))) ?_
      refine Ev.steps_cons (chain_pure hF rfl rfl (by kernel_rfl) (fun _ _ h => by cases h) (fun γ => (.int .i64 0)) (fun _ => rfl) (by decide) (fun γ w2 => (by kernel_rfl))) ?_
      refine Ev.steps_cons (chain_pure hF rfl rfl (by kernel_rfl) (fun _ _ h => by cases h) (fun γ => .slice none 0 0) (fun _ => rfl) (by decide) (fun γ w2 => (by exact run_via2 (x := .tmp 22) (y := .tmp 23) (fun z => match z with | .tmp 22 => .slice none 0 0 | _ => (.int .i64 0)) (by kernel_rfl) (fun _ _ h => by cases h) (by kernel_rfl) (by kernel_rfl) (by go_simp; first | done | rfl)))) ?_
      refine Ev.steps_cons (chain_app_a hF rfl rfl (by kernel_rfl) (fun _ _ h => by cases h) (fun _ => rfl) (fun γ u j hj => ?a8) (.tmp 18) (.tmp 24) 73 rfl _ 56 Tryd.underlying73 info38 rfl none 0 (fun γ => by kernel_rfl) (fun γ => by kernel_rfl) N1.out O1.out (fun w2 hm => .inl ⟨rfl, rfl, rfl⟩) B1.out B2.out HM.out (fun S hd => hd ⟨1, .data⟩ (by simp) rfl)) ?_
      case a8 => match j with | 0 | 1 | 2 | 3 | 4 | 5 | 6 | 7 | 9 | 10 | 11 | 12 | 13 | 14 | 15 | 16 | 17 | 18 | 19 | 20 | 21 | j + 22 => rfl | 8 => exact absurd rfl hj
      refine Ev.steps_cons (chain_read hF rfl rfl (by kernel_rfl) (fun _ _ h => by cases h) (fun γ => .agg (ecl e).toArray) (fun _ => rfl) (by decide) (by decide) (fun γ w2 hm hc => Ev.run_load_whole 38 (.tmp 3) rfl g (by kernel_rfl) 38 _ _ (hm.blk K.out NG.out) Tryd.underlying38 rfl (by kernel_rfl))) ?_
      refine Ev.steps_cons (chain_lit hF rfl rfl (by kernel_rfl) (fun _ _ h => by cases h) (fun _ => rfl) (fun γ u j hj => ?a10) (fun γ w2 => by exact Ev.run_via (v := .agg (ecl e).toArray) rfl (fun _ _ h => by cases h) (by kernel_rfl) (by kernel_rfl))) ?_
      case a10 => match j with | 0 | 1 | 2 | 3 | 4 | 5 | 6 | 7 | 8 | 9 | 11 | 12 | 13 | 14 | 15 | 16 | 17 | 18 | 19 | 20 | 21 | j + 22 => rfl | 10 => exact absurd rfl hj
      refine Ev.steps_cons (chain_app_b hF rfl rfl (by kernel_rfl) (fun _ _ h => by cases h) (fun _ => rfl) (fun γ u j hj => ?a11) (.tmp 25) (.tmp 27) 73 rfl _ 56 Tryd.underlying73 info38 rfl (fun γ => by kernel_rfl) (fun γ => by kernel_rfl) rfl (ecl_one e) B3.out B4.out HM.out (fun S hd => hd ⟨8, .data⟩ (by simp) rfl) (fun S hd => hd ⟨10, .data⟩ (by simp) rfl)) ?_
      case a11 => match j with | 0 | 1 | 2 | 3 | 4 | 5 | 6 | 7 | 8 | 9 | 10 | 12 | 13 | 14 | 15 | 16 | 17 | 18 | 19 | 20 | 21 | j + 22 => rfl | 11 => exact absurd rfl hj
      refine Ev.steps_cons (chain_pure hF rfl rfl (by kernel_rfl) (fun _ _ h => by cases h) (fun γ => .pointer (some ⟨m, 0, none⟩)) (fun _ => rfl) (by decide) (fun γ w2 => (by kernel_rfl))) ?_
      refine Ev.steps_cons (chain_pure hF rfl rfl (by kernel_rfl) (fun _ _ h => by cases h) (fun γ => .pointer (some ⟨m, 0, none⟩)) (fun _ => rfl) (by decide) (fun γ w2 => (by exact Ev.run_via (v := .pointer (some ⟨m, 0, none⟩)) rfl (fun _ _ h => by cases h) (by kernel_rfl) (by kernel_rfl)))) ?_
      refine Ev.steps_cons (chain_pure hF rfl rfl (by kernel_rfl) (fun _ _ h => by cases h) (fun γ => .pointer (some ⟨m, 0, none⟩)) (fun _ => rfl) (by decide) (fun γ w2 => (by exact Ev.run_via (v := .pointer (some ⟨m, 0, none⟩)) rfl (fun _ _ h => by cases h) (by kernel_rfl) (by kernel_rfl)))) ?_
      refine Ev.steps_cons (chain_read hF rfl rfl (by kernel_rfl) (fun _ _ h => by cases h) (fun γ => .slice none 0 0) (fun _ => rfl) (by decide) (by decide) (fun γ w2 hm hc => (by have c0 : w2.cell? ⟨m, 0, none⟩ = some (.slice none 0 0) := blk_cell hc 0; exact Ev.run_via (v := .pointer (some ⟨m, 0, none⟩)) rfl (fun _ _ h => by cases h) (by kernel_rfl) (by go_simp)))) ?_
      refine Ev.steps_cons (chain_pure hF rfl rfl (by kernel_rfl) (fun _ _ h => by cases h) (fun γ => (.int .i64 0)) (fun _ => rfl) (by decide) (fun γ w2 => (by kernel_rfl))) ?_
      refine Ev.steps_cons (chain_pure hF rfl rfl (by kernel_rfl) (fun _ _ h => by cases h) (fun γ => .slice none 0 0) (fun _ => rfl) (by decide) (fun γ w2 => (by exact run_via2 (x := .tmp 32) (y := .tmp 33) (fun z => match z with | .tmp 32 => .slice none 0 0 | _ => (.int .i64 0)) (by kernel_rfl) (fun _ _ h => by cases h) (by kernel_rfl) (by kernel_rfl) (by go_simp; first | done | rfl)))) ?_
      refine Ev.steps_cons (chain_app_c hF rfl rfl (by kernel_rfl) (fun _ _ h => by cases h) (fun _ => rfl) (fun γ u j hj => ?a18) (.tmp 28) (.tmp 34) 73 rfl _ 56 Tryd.underlying73 info38 rfl none 0 (fun γ => by kernel_rfl) (fun γ => by kernel_rfl) N3.out O3.out (fun w2 hm => .inl ⟨rfl, rfl, rfl⟩) B5.out B6.out HM.out (fun S hd => hd ⟨11, .data⟩ (by simp) rfl)) ?_
      case a18 => match j with | 0 | 1 | 2 | 3 | 4 | 5 | 6 | 7 | 8 | 9 | 10 | 11 | 12 | 13 | 14 | 15 | 16 | 17 | 19 | 20 | 21 | j + 22 => rfl | 18 => exact absurd rfl hj
      refine Ev.steps_cons (chain_pure hF rfl rfl (by kernel_rfl) (fun _ _ h => by cases h) (fun γ => .pointer (some ⟨m, 0, none⟩)) (fun _ => rfl) (by decide) (fun γ w2 => (by exact Ev.run_via (v := .pointer (some ⟨m, 0, none⟩)) rfl (fun _ _ h => by cases h) (by kernel_rfl) (by kernel_rfl)))) ?_
      refine Ev.steps_cons (chain_pure hF rfl rfl (by kernel_rfl) (fun _ _ h => by cases h) (fun γ => .pointer (some ⟨m, 0, none⟩)) (fun _ => rfl) (by decide) (fun γ w2 => (by exact Ev.run_via (v := .pointer (some ⟨m, 0, none⟩)) rfl (fun _ _ h => by cases h) (by kernel_rfl) (by kernel_rfl)))) ?_
      refine Ev.steps_cons (chain_store hF rfl rfl (by kernel_rfl) (fun _ _ h => by cases h) (fun _ => rfl) HM.out (fun S hd => deps_all (by kernel_rfl) hd) (fun γ w2 A3 m3 c3 hv3 hc hf => by obtain ⟨v0, v1, v2, v3, lt⟩ := γ; simp only at hv3; subst hv3; exact run_via2 (x := .tmp 37) (y := .tmp 35) (fun z => match z with | .tmp 37 => .pointer (some ⟨m, 0, none⟩) | _ => .slice A3 m3 c3) (by kernel_rfl) (fun _ _ h => by cases h) (by kernel_rfl) (by kernel_rfl) (by go_simp))) ?_
      exact Ev.steps_nil
    · simp only [Ev.putAll, Act.put, List.setIfInBounds_toArray, List.set_cons_succ, List.set_cons_zero]
      obtain ⟨hm4, hb4, hr4⟩ := chain_end hI (by decide)
      clear hI
      go_wp2
      go_end0
      refine ⟨rfl, γ.v3, ⟨hb4, HR.out.ge, ?_⟩, (MW.out.trans hm4 (fun q hq => .inl (.inl hq))).tight, fun q hq => Nat.le_trans SZ.out (own_base hr4 q hq)⟩
      have r1 := own_weaken hr4 HBW.out
      rw [HS.out]
      exact r1
  · obtain ⟨rfl, _, rfl⟩ := Value.slice.inj hA
    have hI := HI.out
    have hL2 := HL2.out
    have hcl := ecls_len L
    have hone := ecls_one L
    have N1 : Aside0 (((L.flatMap ecl).take (i * 5)).length = i * 5) := ⟨by rw [List.length_take, hcl]; omega⟩
    have N3 : Aside0 (((L.flatMap ecl).drop (i * 5)).length = (L.length - i) * 5) := ⟨by rw [List.length_drop, hcl]; omega⟩
    have O1 : Aside0 (∀ u ∈ (L.flatMap ecl).take (i * 5), u.oneCell' = true) := ⟨fun u hu => hone u (List.mem_of_mem_take hu)⟩
    have O3 : Aside0 (∀ u ∈ (L.flatMap ecl).drop (i * 5), u.oneCell' = true) := ⟨fun u hu => hone u (List.mem_of_mem_drop hu)⟩
    have B1 : Aside0 (0 + i ≤ maxLen) := ⟨by unfold maxLen; omega⟩
    have B2 : Aside0 ((0 + i) * 56 ≤ 140737488355328) := ⟨by omega⟩
    have B3 : Aside0 (i + 1 ≤ maxLen) := ⟨by unfold maxLen; omega⟩
    have B4 : Aside0 ((i + 1) * 56 ≤ 140737488355328) := ⟨by omega⟩
    have B5 : Aside0 (i + 1 + (L.length - i) ≤ maxLen) := ⟨by unfold maxLen; omega⟩
    have B6 : Aside0 ((i + 1 + (L.length - i)) * 56 ≤ 140737488355328) := ⟨by omega⟩
    have own2 : ∀ w2, Mod (fun k => k = m) W w2 → w2.ownsRow B 38 5 (.slice (some ⟨b, 0, none⟩) L.length c) L.length (L.flatMap ecl) := fun w2 hm => hm.own HR.out.row (fun q hq e => HR.out.ne q hq e)
    have SRC1 : Aside0 (∀ w2, Mod (fun k => k = m) W w2 → ∀ j u, ((L.flatMap ecl).take (i * 5))[j]? = some u → w2.cell? ((⟨b, 0, none⟩ : Addr).add j) = some u) := ⟨fun w2 hm j u hu => news_of_own (own2 w2 hm) j u (take_some hu)⟩
    have SRC3 : Aside0 (∀ w2, Mod (fun k => k = m) W w2 → Src w2 (if c = i then some ⟨b, 0, none⟩ else some ⟨b, i * 5, none⟩) (L.length - i) ((L.flatMap ecl).drop (i * 5))) := ⟨fun w2 hm => by
      by_cases hci : c = i
      · refine .inr ⟨⟨b, 0, none⟩, by rw [if_pos hci], fun t u hu => ?_⟩
        have h0 : ((L.flatMap ecl).drop (i * 5)).length = 0 := by rw [N3.out]; omega
        rw [List.length_eq_zero_iff.1 h0] at hu
        simp at hu
      · refine .inr ⟨⟨b, i * 5, none⟩, by rw [if_neg hci], fun t u hu => ?_⟩
        have ht := (List.getElem?_eq_some_iff.1 hu).1
        rw [N3.out] at ht
        rw [Addr.add_mid, (own2 w2 hm).cellAt _ (by omega)]
        rw [List.getElem?_drop] at hu
        exact hu⟩
    have x5 : i ≤ c := by omega
    have x8 : (i : Int) ≤ (L.length : Int) := by omega
    have x9 : i ≤ L.length := hI
    clear hA hB hblk hcm hcs htk hcl hone own2 hI hL2 hnc
    refine Ev.region_gh (fun γ => [(some 17, .pointer (some ⟨m, 0, none⟩)), (some 18, γ.v0), (some 19, .pointer (some ⟨m, 0, none⟩)), (some 20, .pointer (some ⟨m, 0, none⟩)), (some 21, .pointer (some ⟨m, 0, none⟩)), (some 22, .slice (some ⟨b, 0, none⟩) L.length c), (some 23, (.int .i64 (i : Int))), (some 24, .slice (some ⟨b, 0, none⟩) i c), (some 25, γ.v1), (some 26, .agg (ecl e).toArray), (some 27, .slice (some ⟨γ.lt, 0, none⟩) 1 1), (some 28, γ.v2), (some 29, .pointer (some ⟨m, 0, none⟩)), (some 30, .pointer (some ⟨m, 0, none⟩)), (some 31, .pointer (some ⟨m, 0, none⟩)), (some 32, .slice (some ⟨b, 0, none⟩) L.length c), (some 33, (.int .i64 (i : Int))), (some 34, .slice (if c = i then some ⟨b, 0, none⟩ else some ⟨b, i * 5, none⟩) (L.length - i) (c - i)), (some 35, γ.v3), (some 36, .pointer (some ⟨m, 0, none⟩)), (some 37, .pointer (some ⟨m, 0, none⟩)), (none, undef)]) (Chain W m (.slice (some ⟨b, 0, none⟩) L.length c) i (L.length - i) ((L.flatMap ecl).take (i * 5)) (ecl e) ((L.flatMap ecl).drop (i * 5))) ⟨undef, undef, undef, undef, 0⟩ (by kernel_rfl) (by kernel_rfl) ⟨fun _ => rfl, by decide, rfl⟩ (chain_start HR.out.blk) (fun hF => ?_) (fun γ w' hI => ?_)
    · refine Ev.steps_cons (chain_pure hF rfl rfl (by kernel_rfl) (fun _ _ h => by cases h) (fun γ => .pointer (some ⟨m, 0, none⟩)) (fun _ => rfl) (by decide) (fun γ w2 => (by kernel_rfl))) ?_
      refine Ev.steps_cons (chain_new hF rfl rfl (by kernel_rfl) (fun _ _ h => by cases h) (fun _ => rfl) (fun γ u j hj => ?a1) (fun γ w2 => by kernel_rfl)) ?_
      case a1 => match j with | 0 | 2 | 3 | 4 | 5 | 6 | 7 | 8 | 9 | 10 | 11 | 12 | 13 | 14 | 15 | 16 | 17 | 18 | 19 | 20 | 21 | j + 22 => rfl | 1 => exact absurd rfl hj
      refine Ev.steps_cons (chain_pure hF rfl rfl (by kernel_rfl) (fun _ _ h => by cases h) (fun γ => .pointer (some ⟨m, 0, none⟩)) (fun _ => rfl) (by decide) (fun γ w2 => (by kernel_rfl))) ?_
      refine Ev.steps_cons (chain_pure hF rfl rfl (by kernel_rfl) (fun _ _ h => by cases h) (fun γ => .pointer (some ⟨m, 0, none⟩)) (fun _ => rfl) (by decide) (fun γ w2 => (by exact Ev.run_via (v := .pointer (some ⟨m, 0, none⟩)) rfl (fun _ _ h => by cases h) (by kernel_rfl) (by kernel_rfl)))) ?_
      refine Ev.steps_cons (chain_pure hF rfl rfl (by kernel_rfl) (fun _ _ h => by cases h) (fun γ => .pointer (some ⟨m, 0, none⟩)) (fun _ => rfl) (by decide) (fun γ w2 => (by exact Ev.run_via (v := .pointer (some ⟨m, 0, none⟩)) rfl (fun _ _ h => by cases h) (by kernel_rfl) (by kernel_rfl)))) ?_
      refine Ev.steps_cons (chain_read hF rfl rfl (by kernel_rfl) (fun _ _ h => by cases h) (fun γ => .slice (some ⟨b, 0, none⟩) L.length c) (fun _ => rfl) (by decide) (by decide) (fun γ w2 hm hc => (by have c0 : w2.cell? ⟨m, 0, none⟩ = some (.slice (some ⟨b, 0, none⟩) L.length c) := blk_cell hc 0; exact Ev.run_via (v := .pointer (some ⟨m, 0, none⟩)) rfl (fun _ _ h => by cases h) (by kernel_rfl) (by go_simp)))) ?_
      refine Ev.steps_cons (chain_pure hF rfl rfl (by kernel_rfl) (fun _ _ h => by cases h) (fun γ => (.int .i64 (i : Int))) (fun _ => rfl) (by decide) (fun γ w2 => (by kernel_rfl))) ?_
      refine Ev.steps_cons (chain_pure hF rfl rfl (by kernel_rfl) (fun _ _ h => by cases h) (fun γ => .slice (some ⟨b, 0, none⟩) i c) (fun _ => rfl) (by decide) (fun γ w2 => (by exact run_via2 (x := .tmp 22) (y := .tmp 23) (fun z => match z with | .tmp 22 => .slice (some ⟨b, 0, none⟩) L.length c | _ => (.int .i64 (i : Int))) (by kernel_rfl) (fun _ _ h => by cases h) (by kernel_rfl) (by kernel_rfl) (by go_simp; first | done | rfl)))) ?_
      refine Ev.steps_cons (chain_app_a hF rfl rfl (by kernel_rfl) (fun _ _ h => by cases h) (fun _ => rfl) (fun γ u j hj => ?a8) (.tmp 18) (.tmp 24) 73 rfl _ 56 Tryd.underlying73 info38 rfl (some ⟨b, 0, none⟩) c (fun γ => by kernel_rfl) (fun γ => by kernel_rfl) N1.out O1.out (fun w2 hm => .inr ⟨_, rfl, SRC1.out w2 hm⟩) B1.out B2.out HM.out (fun S hd => hd ⟨1, .data⟩ (by simp) rfl)) ?_
      case a8 => match j with | 0 | 1 | 2 | 3 | 4 | 5 | 6 | 7 | 9 | 10 | 11 | 12 | 13 | 14 | 15 | 16 | 17 | 18 | 19 | 20 | 21 | j + 22 => rfl | 8 => exact absurd rfl hj
      refine Ev.steps_cons (chain_read hF rfl rfl (by kernel_rfl) (fun _ _ h => by cases h) (fun γ => .agg (ecl e).toArray) (fun _ => rfl) (by decide) (by decide) (fun γ w2 hm hc => Ev.run_load_whole 38 (.tmp 3) rfl g (by kernel_rfl) 38 _ _ (hm.blk K.out NG.out) Tryd.underlying38 rfl (by kernel_rfl))) ?_
      refine Ev.steps_cons (chain_lit hF rfl rfl (by kernel_rfl) (fun _ _ h => by cases h) (fun _ => rfl) (fun γ u j hj => ?a10) (fun γ w2 => by exact Ev.run_via (v := .agg (ecl e).toArray) rfl (fun _ _ h => by cases h) (by kernel_rfl) (by kernel_rfl))) ?_
      case a10 => match j with | 0 | 1 | 2 | 3 | 4 | 5 | 6 | 7 | 8 | 9 | 11 | 12 | 13 | 14 | 15 | 16 | 17 | 18 | 19 | 20 | 21 | j + 22 => rfl | 10 => exact absurd rfl hj
      refine Ev.steps_cons (chain_app_b hF rfl rfl (by kernel_rfl) (fun _ _ h => by cases h) (fun _ => rfl) (fun γ u j hj => ?a11) (.tmp 25) (.tmp 27) 73 rfl _ 56 Tryd.underlying73 info38 rfl (fun γ => by kernel_rfl) (fun γ => by kernel_rfl) rfl (ecl_one e) B3.out B4.out HM.out (fun S hd => hd ⟨8, .data⟩ (by simp) rfl) (fun S hd => hd ⟨10, .data⟩ (by simp) rfl)) ?_
      case a11 => match j with | 0 | 1 | 2 | 3 | 4 | 5 | 6 | 7 | 8 | 9 | 10 | 12 | 13 | 14 | 15 | 16 | 17 | 18 | 19 | 20 | 21 | j + 22 => rfl | 11 => exact absurd rfl hj
      refine Ev.steps_cons (chain_pure hF rfl rfl (by kernel_rfl) (fun _ _ h => by cases h) (fun γ => .pointer (some ⟨m, 0, none⟩)) (fun _ => rfl) (by decide) (fun γ w2 => (by kernel_rfl))) ?_
      refine Ev.steps_cons (chain_pure hF rfl rfl (by kernel_rfl) (fun _ _ h => by cases h) (fun γ => .pointer (some ⟨m, 0, none⟩)) (fun _ => rfl) (by decide) (fun γ w2 => (by exact Ev.run_via (v := .pointer (some ⟨m, 0, none⟩)) rfl (fun _ _ h => by cases h) (by kernel_rfl) (by kernel_rfl)))) ?_
      refine Ev.steps_cons (chain_pure hF rfl rfl (by kernel_rfl) (fun _ _ h => by cases h) (fun γ => .pointer (some ⟨m, 0, none⟩)) (fun _ => rfl) (by decide) (fun γ w2 => (by exact Ev.run_via (v := .pointer (some ⟨m, 0, none⟩)) rfl (fun _ _ h => by cases h) (by kernel_rfl) (by kernel_rfl)))) ?_
      refine Ev.steps_cons (chain_read hF rfl rfl (by kernel_rfl) (fun _ _ h => by cases h) (fun γ => .slice (some ⟨b, 0, none⟩) L.length c) (fun _ => rfl) (by decide) (by decide) (fun γ w2 hm hc => (by have c0 : w2.cell? ⟨m, 0, none⟩ = some (.slice (some ⟨b, 0, none⟩) L.length c) := blk_cell hc 0; exact Ev.run_via (v := .pointer (some ⟨m, 0, none⟩)) rfl (fun _ _ h => by cases h) (by kernel_rfl) (by go_simp)))) ?_
      refine Ev.steps_cons (chain_pure hF rfl rfl (by kernel_rfl) (fun _ _ h => by cases h) (fun γ => (.int .i64 (i : Int))) (fun _ => rfl) (by decide) (fun γ w2 => (by kernel_rfl))) ?_
      refine Ev.steps_cons (chain_pure hF rfl rfl (by kernel_rfl) (fun _ _ h => by cases h) (fun γ => .slice (if c = i then some ⟨b, 0, none⟩ else some ⟨b, i * 5, none⟩) (L.length - i) (c - i)) (fun _ => rfl) (by decide) (fun γ w2 => (by exact run_via2 (x := .tmp 32) (y := .tmp 33) (fun z => match z with | .tmp 32 => .slice (some ⟨b, 0, none⟩) L.length c | _ => (.int .i64 (i : Int))) (by kernel_rfl) (fun _ _ h => by cases h) (by kernel_rfl) (by kernel_rfl) (by go_simp; first | done | rfl)))) ?_
      refine Ev.steps_cons (chain_app_c hF rfl rfl (by kernel_rfl) (fun _ _ h => by cases h) (fun _ => rfl) (fun γ u j hj => ?a18) (.tmp 28) (.tmp 34) 73 rfl _ 56 Tryd.underlying73 info38 rfl (if c = i then some ⟨b, 0, none⟩ else some ⟨b, i * 5, none⟩) (c - i) (fun γ => by kernel_rfl) (fun γ => by kernel_rfl) N3.out O3.out (fun w2 hm => SRC3.out w2 hm) B5.out B6.out HM.out (fun S hd => hd ⟨11, .data⟩ (by simp) rfl)) ?_
      case a18 => match j with | 0 | 1 | 2 | 3 | 4 | 5 | 6 | 7 | 8 | 9 | 10 | 11 | 12 | 13 | 14 | 15 | 16 | 17 | 19 | 20 | 21 | j + 22 => rfl | 18 => exact absurd rfl hj
      refine Ev.steps_cons (chain_pure hF rfl rfl (by kernel_rfl) (fun _ _ h => by cases h) (fun γ => .pointer (some ⟨m, 0, none⟩)) (fun _ => rfl) (by decide) (fun γ w2 => (by exact Ev.run_via (v := .pointer (some ⟨m, 0, none⟩)) rfl (fun _ _ h => by cases h) (by kernel_rfl) (by kernel_rfl)))) ?_
      refine Ev.steps_cons (chain_pure hF rfl rfl (by kernel_rfl) (fun _ _ h => by cases h) (fun γ => .pointer (some ⟨m, 0, none⟩)) (fun _ => rfl) (by decide) (fun γ w2 => (by exact Ev.run_via (v := .pointer (some ⟨m, 0, none⟩)) rfl (fun _ _ h => by cases h) (by kernel_rfl) (by kernel_rfl)))) ?_
      refine Ev.steps_cons (chain_store hF rfl rfl (by kernel_rfl) (fun _ _ h => by cases h) (fun _ => rfl) HM.out (fun S hd => deps_all (by kernel_rfl) hd) (fun γ w2 A3 m3 c3 hv3 hc hf => by obtain ⟨v0, v1, v2, v3, lt⟩ := γ; simp only at hv3; subst hv3; exact run_via2 (x := .tmp 37) (y := .tmp 35) (fun z => match z with | .tmp 37 => .pointer (some ⟨m, 0, none⟩) | _ => .slice A3 m3 c3) (by kernel_rfl) (fun _ _ h => by cases h) (by kernel_rfl) (by kernel_rfl) (by go_simp))) ?_
      exact Ev.steps_nil
    · simp only [Ev.putAll, Act.put, List.setIfInBounds_toArray, List.set_cons_succ, List.set_cons_zero]
      obtain ⟨hm4, hb4, hr4⟩ := chain_end hI (by decide)
      clear hI
      obtain ⟨zA, hzA⟩ : ∃ zA : Option Addr, zA = (if c = i then some ⟨b, 0, none⟩ else some ⟨b, i * 5, none⟩) := ⟨_, rfl⟩
      rw [← hzA]
      clear hzA
      go_wp2
      go_end0
      refine ⟨rfl, γ.v3, ⟨hb4, HR.out.ge, ?_⟩, (MW.out.trans hm4 (fun q hq => .inl (.inl hq))).tight, fun q hq => Nat.le_trans SZ.out (own_base hr4 q hq)⟩
      have r1 := own_weaken hr4 HBW.out
      rw [HS.out]
      have e1 : (L.take i ++ e :: L.drop i).length = i + 1 + (L.length - i) := by rw [List.length_append, List.length_take, List.length_cons, List.length_drop]; have := HI.out; omega
      have e2 : (L.take i ++ e :: L.drop i).flatMap ecl = (L.flatMap ecl).take (i * 5) ++ ecl e ++ (L.flatMap ecl).drop (i * 5) := by rw [ecls_take, ecls_drop, List.flatMap_append, List.flatMap_cons, List.append_assoc]
      rw [e1, e2]
      exact r1
end Go.Proofs.YtepklobkppdliaaDoor.Rm

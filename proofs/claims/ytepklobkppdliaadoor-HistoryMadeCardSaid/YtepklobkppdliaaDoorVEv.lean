/- Regions that draw their order and write memory: one walk of the order of the text serves every order, where each operation keeps a class of worlds that knows which operations are done. No Go in it. -/
import Derived.Still
import Derived.Deep.Draws
namespace Go.Proofs.YtepklobkppdliaaDoor.Ev
open Go
section
variable {P : Program} {ops : Array Oper} {md : Region.Mode} {C : Array Bool → World → Prop}
/-- What the operation waits for is done. -/
def Deps (md : Region.Mode) (o : Oper) (S : Array Bool) : Prop := ∀ e ∈ o.after, Region.binds md e = true → S.getD e.on false = true
def Upon (P : Program) (D : World → Prop) (v : Value) : Result Next → Prop
  | .ok (.value u) w' => u = v ∧ D w'
  | .ok .skip w' => v = undef ∧ D w'
  | .ok (.enter f args) w' => Calls P f args w' (fun e w'' => e = .returned v ∧ D w'')
  | _ => False
/-- The operation of number i yields v in every world in which it may come up. -/
def Does (P : Program) (md : Region.Mode) (C : Array Bool → World → Prop) (i : Nat) (o : Oper) (a : Act) (v : Value) : Prop :=
  ∀ S w, S.getD i true = false → Deps md o S → C S w → Upon P (C (S.setIfInBounds i true)) v ((execOp a.eval o).run P w)
/-- It is passed over. -/
def Idle (C : Array Bool → World → Prop) (i : Nat) : Prop := ∀ S w, S.getD i true = false → C S w → C (S.setIfInBounds i true) w
def evOp (P : Program) (md : Region.Mode) (ops : Array Oper) (C : Array Bool → World → Prop) (i : Nat) (K : Act → Prop) (a : Act) : Prop :=
  match ops[i]? with
  | none => False
  | some o => if Region.wanted o (yielded ops a.tmps) = true then ∃ v, Does P md C i o a v ∧ K (a.put o.dst v) else Idle C i ∧ K (a.put o.dst undef)
theorem evOp_mono {i : Nat} {a : Act} {K K' : Act → Prop} (h : ∀ a, K a → K' a) (hh : evOp P md ops C i K a) : evOp P md ops C i K' a := by
  unfold evOp at *
  split
  · simp only [*] at hh
  · rename_i o ho
    simp only [ho] at hh
    split
    · rename_i hw
      simp only [hw, if_true] at hh
      obtain ⟨v, h1, h2⟩ := hh
      exact ⟨v, h1, h _ h2⟩
    · rename_i hw
      simp only [hw] at hh
      exact ⟨hh.1, h _ hh.2⟩
/-- Whatever order is picked from here on. -/
def wpAnyE (P : Program) (md : Region.Mode) (ops : Array Oper) (C : Array Bool → World → Prop) (Q : Act → Prop) : Nat → Array Bool → Act → Prop
  | 0, listed, a => Region.ready md ops listed = [] ∧ Q a
  | fuel + 1, listed, a => Region.ready md ops listed ≠ [] ∧ ∀ i ∈ Region.ready md ops listed, evOp P md ops C i (wpAnyE P md ops C Q fuel (listed.setIfInBounds i true)) a
theorem wp_of_does {i : Nat} {o : Oper} {a : Act} {v : Value} {K : Act → World → Prop} {Q' : Exit → Act → World → Prop} {S : Array Bool} {w : World} (h0 : S.getD i true = false) (hd : Deps md o S) (hC : C S w)
    (h : ∀ w', C (S.setIfInBounds i true) w' → K (a.put o.dst v) w') (hh : Does P md C i o a v) : o.wp P a w K Q' := by
  have h3 := hh S w h0 hd hC
  unfold Oper.wp
  generalize (execOp a.eval o).run P w = r at *
  cases r with
  | ok n w' =>
    cases n <;> simp only [Upon] at h3 <;> simp only [Oper.upon]
    case value u =>
      obtain ⟨e1, e2⟩ := h3
      rw [e1]
      exact h _ e2
    case skip =>
      obtain ⟨e1, e2⟩ := h3
      rw [← e1]
      exact h _ e2
    case enter f args => exact h3.mono fun e w'' ⟨he, hw''⟩ => by subst he; exact h _ hw''
  | halt x w' => simp only [Upon] at h3
/-- How many are not yet done. -/
def open_ (S : Array Bool) : Nat := S.toList.count false
theorem open_set {S : Array Bool} {i : Nat} (h : S.getD i true = false) : open_ (S.setIfInBounds i true) + 1 = open_ S := by
  have hi : i < S.size := by
    rcases Nat.lt_or_ge i S.size with h' | h'
    · exact h'
    · rw [Array.getD_eq_getD_getElem?, Array.getElem?_eq_none h'] at h
      cases h
  have hg : S[i] = false := by
    rw [Array.getD_eq_getD_getElem?, Array.getElem?_eq_getElem hi] at h
    exact h
  unfold open_
  rw [Array.toList_setIfInBounds, List.count_set (by simpa using hi)]
  have : S.toList[i]'(by simpa using hi) = false := by simpa using hg
  rw [this]
  have hp : 0 < S.toList.count false := List.count_pos_iff.2 (by rw [← this]; exact List.getElem_mem _)
  rw [if_pos (show (false == false) = true from rfl), if_neg (show ¬ (true == false) = true by decide)]
  omega
theorem all_done {S : Array Bool} (h : open_ S = 0) : S = Array.replicate S.size true := by
  apply Array.ext
  · simp
  · intro i h1 h2
    rw [Array.getElem_replicate]
    cases hS : S[i]
    · exfalso
      have : false ∈ S.toList := by rw [← hS]; exact Array.getElem_mem_toList h1
      have := List.count_pos_iff.2 this
      unfold open_ at h
      omega
    · rfl
theorem wpAny_of_ev {Q : Act → Prop} {Q' : Exit → Act → World → Prop} {n : Nat} (hQ : ∀ a w, C (Array.replicate n true) w → Q a → Q' .normal a w) : ∀ (fuel : Nat) (listed : Array Bool) (a : Act) (w : World),
    listed.size = n → open_ listed = fuel → C listed w → wpAnyE P md ops C Q fuel listed a → wpAny P md ops Q' fuel listed a w
  | 0, listed, a, w, hs, ho, hw, h => ⟨h.1, hQ a w (by rw [← hs, ← all_done ho]; exact hw) h.2⟩
  | fuel + 1, listed, a, w, hs, ho, hw, h => ⟨fun h0 => absurd h0 h.1, fun i hi => by
    have h1 := h.2 i hi
    obtain ⟨hun, o, hoj, hall⟩ := mem_ready.1 hi
    have hs' : (listed.setIfInBounds i true).size = n := by simpa using hs
    have ho' : open_ (listed.setIfInBounds i true) = fuel := by have := open_set hun; omega
    unfold evOp at h1
    unfold wpOp
    simp only [hoj] at h1 ⊢
    split
    · rename_i hwt
      simp only [hwt, if_true] at h1
      obtain ⟨v, h2, h3⟩ := h1
      exact .inl (wp_of_does hun hall hw (fun w' hw' => wpAny_of_ev hQ fuel _ _ w' hs' ho' hw' h3) h2)
    · rename_i hwt
      simp only [hwt] at h1
      exact wpAny_of_ev hQ fuel _ _ w hs' ho' (h1.1 _ _ hun hw) h1.2⟩
def YieldsE (P : Program) (md : Region.Mode) (ops : Array Oper) (C : Array Bool → World → Prop) (i : Nat) (o : Oper) (v : Value) (a : Act) : Prop :=
  (Region.wanted o (yielded ops a.tmps) = true ∧ Does P md C i o a v) ∨ (Region.wanted o (yielded ops a.tmps) = false ∧ v = undef ∧ Idle C i)
theorem YieldsE.evOp {i : Nat} {o : Oper} {v : Value} {a : Act} (hi : ops[i]? = some o) (hy : YieldsE P md ops C i o v a) {K : Act → Prop} (h : K (a.put o.dst v)) : evOp P md ops C i K a := by
  unfold Ev.evOp
  simp only [hi]
  rcases hy with ⟨hw, hv⟩ | ⟨hw, rfl, hid⟩
  · simp only [hw, if_true]; exact ⟨v, hv, h⟩
  · simp only [hw, Bool.false_eq_true, if_false]; exact ⟨hid, h⟩
theorem YieldsE.of_same {i : Nat} {o : Oper} {v : Value} {a a' : Act} (hy : YieldsE P md ops C i o v a) (he : execOp a'.eval o = execOp a.eval o)
    (hw : Region.wanted o (yielded ops a'.tmps) = Region.wanted o (yielded ops a.tmps)) : YieldsE P md ops C i o v a' := by
  unfold YieldsE Does at *
  rw [he, hw]
  exact hy
theorem yieldsE_of_evOp {i : Nat} {o : Oper} {a : Act} {K : Act → Prop} (hi : ops[i]? = some o) (h : evOp P md ops C i K a) : ∃ v, YieldsE P md ops C i o v a ∧ K (a.put o.dst v) := by
  unfold Ev.evOp at h
  simp only [hi] at h
  by_cases hw : Region.wanted o (yielded ops a.tmps) = true
  · simp only [hw, if_true] at h
    obtain ⟨v, h1, h2⟩ := h
    exact ⟨v, .inl ⟨hw, h1⟩, h2⟩
  · simp only [hw] at h
    exact ⟨undef, .inr ⟨by simpa using hw, rfl, h.1⟩, h.2⟩
theorem evOp_put {i j : Nat} {oi oj : Oper} {v : Value} (hj : ops[j]? = some oj) (hap : oi.apart ops oj = true)
    (hsi : ∀ cs b, oi.op ≠ .select cs b) (hsj : ∀ cs b, oj.op ≠ .select cs b) {K : Act → Prop} {a : Act}
    (hy : YieldsE P md ops C i oi v a) (h : evOp P md ops C j K (a.put oi.dst v)) :
    evOp P md ops C j (fun a' => YieldsE P md ops C i oi v a' ∧ K (a'.put oi.dst v)) a := by
  obtain ⟨h1, h2, h3⟩ := Oper.apart_spec hap
  have keep : ∀ (a : Act), YieldsE P md ops C i oi v a → ∀ u, YieldsE P md ops C i oi v (a.put oj.dst u) := fun a hy u =>
    hy.of_same (execOp_put oi hsi a oj.dst u h3) (wanted_put oi a oj.dst u h3)
  unfold evOp at *
  simp only [hj] at *
  rw [wanted_put oj a oi.dst v h1] at h
  split
  · rename_i hw
    simp only [hw, if_true] at h
    obtain ⟨u, hu, hn⟩ := h
    refine ⟨u, ?_, keep a hy u, by rw [← Act.put_comm a v u h2]; exact hn⟩
    unfold Does at *
    rwa [execOp_put oj hsj a oi.dst v h1] at hu
  · rename_i hw
    simp only [hw] at h
    exact ⟨h.1, keep a hy _, by rw [← Act.put_comm a v undef h2]; exact h.2⟩
theorem wpAnyE_first {Q : Act → Prop} {i : Nat} {oi : Oper} {v : Value} (hi : ops[i]? = some oi) (hsel : ∀ (j : Nat) (o : Oper) cs b, ops[j]? = some o → o.op ≠ .select cs b) :
    ∀ (fuel : Nat) (listed : Array Bool) (a : Act),
      (∀ j oj, ops[j]? = some oj → j ≠ i → listed.getD j true = false → (∀ e ∈ oj.after, Region.binds md e = true → e.on ≠ i) → oi.apart ops oj = true) →
      i ∈ Region.ready md ops listed → YieldsE P md ops C i oi v a →
      wpAnyE P md ops C Q fuel (listed.setIfInBounds i true) (a.put oi.dst v) → wpAnyE P md ops C Q (fuel + 1) listed a := by
  intro fuel
  induction fuel with
  | zero =>
    intro listed a _ hr hy H
    refine ⟨fun h => (by rw [h] at hr; cases hr), fun j hj => ?_⟩
    by_cases hji : j = i
    · subst hji; exact hy.evOp hi H
    · have := ready_mono hj hji
      rw [H.1] at this
      cases this
  | succ fuel ih =>
    intro listed a hfree hr hy H
    refine ⟨fun h => (by rw [h] at hr; cases hr), fun j hj => ?_⟩
    by_cases hji : j = i
    · subst hji; exact hy.evOp hi H
    · have h1 := H.2 j (ready_mono hj hji)
      obtain ⟨hjun, oj, hoj, hall⟩ := mem_ready.1 hj
      have hnot : ∀ e ∈ oj.after, Region.binds md e = true → e.on ≠ i := fun e he hb heq => by
        have h1 := hall e he hb
        have h0 := (mem_ready.1 hr).1
        rw [heq] at h1
        rcases Nat.lt_or_ge i listed.size with h' | h'
        · simp [h'] at h0 h1; rw [h0] at h1; cases h1
        · simp [Array.getElem?_eq_none h'] at h1
      have h2 := evOp_put hoj (hfree j oj hoj hji hjun hnot) (fun cs b => hsel i oi cs b hi) (fun cs b => hsel j oj cs b hoj) hy h1
      have hfree' : ∀ k ok, ops[k]? = some ok → k ≠ i → (listed.setIfInBounds j true).getD k true = false →
          (∀ e ∈ ok.after, Region.binds md e = true → e.on ≠ i) → oi.apart ops ok = true := fun k ok hk hki hun hno => by
        refine hfree k ok hk hki ?_ hno
        by_cases hjk : j = k
        · subst hjk; exact hjun
        · rw [getD_set_ne true hjk] at hun; exact hun
      refine evOp_mono (fun a' h3 => ih (listed.setIfInBounds j true) a' hfree' (ready_mono hr (Ne.symm hji)) h3.1 ?_) h2
      rw [Array.setIfInBounds_comm _ _ hji]
      exact h3.2
/-- The walk in the order of the text. -/
def wpEv (P : Program) (md : Region.Mode) (ops : Array Oper) (C : Array Bool → World → Prop) (Q : Act → Prop) : Nat → List Oper → Act → Prop
  | _, [], a => Q a
  | k, o :: rest, a => if Region.wanted o (yielded ops a.tmps) = true then ∃ v, Does P md C k o a v ∧ wpEv P md ops C Q (k + 1) rest (a.put o.dst v) else Idle C k ∧ wpEv P md ops C Q (k + 1) rest (a.put o.dst undef)
theorem wpAnyE_lex {Q : Act → Prop} (hs : Region.noSelect ops = true) : ∀ (l : List Oper) (k : Nat) (listed : Array Bool) (a : Act), (∀ j, l[j]? = ops[k + j]?) →
    Region.lexFrom md ops l.length k listed = true → wpEv P md ops C Q k l a → wpAnyE P md ops C Q l.length listed a
  | [], _, _, _, _, hB, h => ⟨by simpa [Region.lexFrom] using hB, h⟩
  | o :: l, k, listed, a, hl, hB, h => by
    have h0 : ops[k]? = some o := by simpa using (hl 0).symm
    simp only [List.length_cons, Region.lexFrom, Bool.and_eq_true] at hB
    obtain ⟨⟨hr, hf⟩, hB'⟩ := hB
    have hst : evOp P md ops C k (wpEv P md ops C Q (k + 1) l) a := by unfold evOp; simp only [h0]; exact h
    obtain ⟨v, hy, hK⟩ := yieldsE_of_evOp h0 hst
    exact wpAnyE_first h0 (Region.noSelect_spec hs) l.length listed a (Region.free_spec h0 hf) (by simpa using hr) hy
      (wpAnyE_lex hs l (k + 1) _ _ (fun j => by have := hl (j + 1); simpa [Nat.add_assoc, Nat.add_comm 1 j] using this) hB' hK)
/-- A region that draws its order. -/
theorem region_ev {id : Nat} {Q' : Exit → Act → World → Prop} {a : Act} {w : World} (C : Array Bool → World → Prop) (hm : P.follows .mixedOrders = true) (hB : Region.lexB .any ops = true) (hC : C (Array.replicate ops.size false) w.drew)
    (h : wpEv P .any ops C (fun a' => ∀ w', C (Array.replicate ops.size true) w' → Q' .normal a' w') 0 ops.toList a) : (Code.region id ops true).wp P Q' a w := by
  simp only [Region.lexB, Bool.and_eq_true] at hB
  refine wp_region_any hm (wpAny_of_ev (n := ops.size) (Q := fun a' => ∀ w', C (Array.replicate ops.size true) w' → Q' .normal a' w') (fun _ w' hw' h => h w' hw') _ _ _ _ (by simp) ?_ hC ?_)
  · unfold open_
    simp
  · have := wpAnyE_lex (C := C) (md := .any) hB.1 ops.toList 0 (Array.replicate ops.size false) a (by simp) (by simpa using hB.2) h
    simpa using this
end
end Go.Proofs.YtepklobkppdliaaDoor.Ev

/- The document model: Apply of one key, joined. -/
import Derived.Test.YtepklobkppdliaaDoorURm5
namespace Go.Proofs.YtepklobkppdliaaDoor.Rm
open Go.RowKit Go.Proofs.YtepklobkppdliaaDoorW.PrintWords Go.Proofs.YtepklobkppdliaaDoorW.PrintLast Go.Proofs.YtepklobkppdliaaDoorW.PrintMore Go.Proofs.YtepklobkppdliaaDoor.Lib Go.Proofs.YtepklobkppdliaaDoor.Open Go.Proofs.YtepklobkppdliaaDoor.Md
/-- What the document's model does to a request of one key that is no get. -/
def entOf (L : List Ent) (key : ByteArray) (now : Int) : Ent := (rowAt L key now).getD (kEnt key)
def rowTo (L : List Ent) (r : Rq) (key : ByteArray) (now ver : Int) : An × List Ent :=
  match nextOf r (entOf L key now) (isAt key now L) now ver with
  | (a, x, kp, dr) => (a, if kp = true then setL x L else if dr = true then forgetL key L else L)
theorem next_absent (r : Rq) (e : Ent) (now ver : Int) : (nextOf r e false now ver).2.2.2 = false := by
  unfold nextOf
  repeat' split
  all_goals first | rfl | simp_all
theorem rapply_one (B m : Nat) (v : Value) (L : List Ent) (r : Rq) (key : ByteArray) (ad : Addr) (cap : Nat) (now ver : Int) (w : World) (h : Rm w B m v L) (hl : L.length < 1000000) (hc : w.cell? ad = some (.string key)) (hv : r.verb ≠ 1 ∧ r.verb ≠ 2 ∧ r.verb ≠ 13)
    (hF : Fine r (entOf L key now)) (hkey : ∀ x ∈ L, (x.key.toList == key.toList) = true → x.key = key) :
    Calls Tryd.prog 32 #[.pointer (some ⟨m, 0, none⟩), .agg (r.c (.slice (some ad) 1 cap)), .int .i64 now, .int .i64 ver] w fun e w' => e = .returned (.agg (rowTo L r key now ver).1.c) ∧
      ∃ v', Rm w' B m v' (rowTo L r key now ver).2 ∧ Mod (fun k => k = m) w w' ∧ ∀ q, v'.ownBlock = some q → (v.ownBlock = some q ∨ w.heap.size ≤ q) := by
  have hnx := fun W => rnext_calls r (.slice (some ad) 1 cap) (entOf L key now) (isAt key now L) now ver W hF
  have hkd := (next_fine r (entOf L key now) (isAt key now L) now ver hF).2
  unfold rowTo
  cases hT : isAt key now L
  · have hab := next_absent r (entOf L key now) now ver
    have hE : entOf L key now = kEnt key := by unfold entOf; rw [rowAt_none hT]; rfl
    rw [hT] at hnx hkd
    obtain ⟨⟨a, x, kp, dr⟩, hN⟩ : ∃ N, N = nextOf r (entOf L key now) false now ver := ⟨_, rfl⟩
    rw [← hN] at hnx hkd hab ⊢
    simp only at hab
    subst hab
    cases kp
    · exact rap_no_none B m v L _ a x r key ad cap now ver w h hl hc hv hT hE hnx
    · exact rap_no_keep B m v L _ a x r key ad cap now ver w h hl hc hv hT hE hnx
  · obtain ⟨E, hx, hke, hra⟩ := rowAt_some hT
    have hE : entOf L key now = E := by unfold entOf; rw [hra]; rfl
    have hk : E.key = key := hkey E (List.mem_of_getElem? hx) hke
    rw [hT, hE] at hnx hkd
    rw [hE]
    obtain ⟨⟨a, x, kp, dr⟩, hN⟩ : ∃ N, N = nextOf r E true now ver := ⟨_, rfl⟩
    rw [← hN] at hnx hkd ⊢
    cases kp
    · cases dr
      · exact rap_yes_none B m v L E a x r key ad cap now ver w h hl hc hv hT hx hnx
      · have := rap_yes_drop B m v L E a x r key ad cap now ver w h hl hc hv hT hx hnx
        rw [hk] at this
        exact this
    · obtain rfl : dr = false := hkd rfl
      exact rap_yes_keep B m v L E a x r key ad cap now ver w h hl hc hv hT hx hnx
end Go.Proofs.YtepklobkppdliaaDoor.Rm

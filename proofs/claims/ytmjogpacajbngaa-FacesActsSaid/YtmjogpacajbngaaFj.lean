/- Full at a name that no face bears; Full at any name. No condition but those written. -/
import Derived.Test.YtmjogpacajbngaaFe
namespace Go.Proofs.Ytmjogpacajbngaa
open Go.RowKit
attribute [local go_sem] neq_faces

set_option maxRecDepth 100000 in
set_option maxHeartbeats 8000000 in
theorem full_no {w : World} {fb mb : Nat} {D : Fm} (h : FaIn w fb mb D) (name : ByteArray) (hk : (look D name).isSome = false) : Calls Try.prog 26 #[.pointer (some ⟨fb, 0, none⟩), .string name] w fun e w' => e = .returned (.tuple #[attZero.val, .int .i64 8]) ∧ Below w.heap.size w w' := by
  have hB1 : Below w.heap.size w ((w.alloc (.cells #[.pointer (some ⟨fb, 0, none⟩)] 30)).alloc (.cells attZ 23)) := ((Below.refl _ w).alloc (Nat.le_refl _) _).alloc (by simp) _
  have h1 := h.below hB1
  have HM := hide (made_yes h1)
  have c0 : ((w.alloc (.cells #[.pointer (some ⟨fb, 0, none⟩)] 30)).alloc (.cells attZ 23)).cell? ⟨fb, 0, none⟩ = some (.map (some mb)) := by rw [h1.m.cell]; rfl
  have c00 : w.cell? ⟨fb, 0, none⟩ = some (.map (some mb)) := by rw [h.m.cell]; rfl
  have hlk := face_lookup2 h1.d name
  rw [hk] at hlk
  have HBL := hide (hB1.alloc hB1.size (.cells (lookZ D name).cells.toArray 23))
  have HR := hide (show Blk (((w.alloc (.cells #[.pointer (some ⟨fb, 0, none⟩)] 30)).alloc (.cells attZ 23)).alloc (.cells (lookZ D name).cells.toArray 23)) (w.heap.size + 1) 23 attZ from by
    have := Blk.new (w.alloc (.cells #[.pointer (some ⟨fb, 0, none⟩)] 30)) 23 attZ
    rw [World.size_alloc] at this
    exact this.alloc _)
  have HLD := hide (run_loadVar_row (P := Try.prog) _ (w.heap.size + 1) 23 23 attZero.cells.toArray (0, 0) _ HR.out Try.underlying23 rfl (by kernel_rfl))
  clear h h1 hB1 hk
  go_enter Try.func26, Try.ntmps26
  go_wp2_with fail
  refine (Calls.mono (HM.out)) ?_
  rintro r w2 ⟨rfl, rfl⟩
  go_wp2
  refine bodyPost_ret (results_row2 rfl rfl HLD.out rfl) rfl ?_
  exact ⟨rfl, HBL.out⟩
/-- Each face has a chain. -/
def Chained (D : Fm) : Prop := ∀ s, (look D s).isSome = true → ∃ xs, Chain D s xs
noncomputable def chainOf (D : Fm) (s : ByteArray) : List ByteArray := Classical.epsilon fun xs => Chain D s xs
theorem chainOf_eq {D : Fm} {s : ByteArray} {xs : List ByteArray} (h : Chain D s xs) : chainOf D s = xs := (Classical.epsilon_spec (p := fun xs => Chain D s xs) ⟨xs, h⟩).uniq h
noncomputable def fullA (D : Fm) (s : ByteArray) : Att := if (look D s).isSome = true then fullOf D (chainOf D s) else attZero
def fullE (D : Fm) (s : ByteArray) : Int := if (look D s).isSome = true then 0 else 8
theorem full_any {w : World} {fb mb : Nat} {D : Fm} (h : FaIn w fb mb D) (hC : Chained D) (name : ByteArray) : Calls Try.prog 26 #[.pointer (some ⟨fb, 0, none⟩), .string name] w fun e w' => e = .returned (.tuple #[(fullA D name).val, .int .i64 (fullE D name)]) ∧ Below w.heap.size w w' := by
  unfold fullA fullE
  cases hk : (look D name).isSome with
  | false => exact full_no h name hk
  | true =>
    obtain ⟨xs, hx⟩ := hC name hk
    rw [chainOf_eq hx]
    exact full_yes h name xs hx hk
end Go.Proofs.Ytmjogpacajbngaa

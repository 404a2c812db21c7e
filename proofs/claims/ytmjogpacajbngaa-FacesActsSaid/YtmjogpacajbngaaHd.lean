/- The reference: its faces beside the map's; a region that draws, two that may come up. No condition but those written. -/
import Derived.Test.YtmjogpacajbngaaHc
import Derived.Test.YtmjogpacajbngaaDraw
namespace Go.Proofs.Ytmjogpacajbngaa
open Go.RowKit

section
variable {P : Program} {ops : Array Oper} {Q : Exit → Act → World → Prop} {md : Region.Mode} {S : World → Prop} {D : List Nat}
/-- Two that may come up. -/
theorem wpAnyD_two {i j : Nat} {o p : Oper} {fuel : Nat} {listed : Array Bool} {a : Act} {w : World} (hr : Region.ready md ops listed = [i, j]) (ho : ops[i]? = some o) (hp : ops[j]? = some p)
    (h1 : ∀ K : Act → World → Prop, (∀ a' w', (D.contains i = false → S w → S w') → wpAnyD P md ops Q S D fuel (listed.setIfInBounds i true) a' w' → K a' w') → if Region.wanted o (yielded ops a.tmps) = true then Oper.wp P o a w K Q else K (a.put o.dst undef) w)
    (h2 : ∀ K : Act → World → Prop, (∀ a' w', (D.contains j = false → S w → S w') → wpAnyD P md ops Q S D fuel (listed.setIfInBounds j true) a' w' → K a' w') → if Region.wanted p (yielded ops a.tmps) = true then Oper.wp P p a w K Q else K (a.put p.dst undef) w) : wpAnyD P md ops Q S D (fuel + 1) listed a w := by
  refine wpAnyD_all hr (by simp) fun k hk => ?_
  rcases List.mem_cons.1 hk with rfl | hk
  · exact wpOp_step ho fun K hK => h1 K fun a' w' h1 h2 => hK a' w' ⟨h1, h2⟩
  · obtain rfl : k = j := by simpa using hk
    exact wpOp_step hp fun K hK => h2 K fun a' w' h1 h2 => hK a' w' ⟨h1, h2⟩
end
/-- The first k of a slice, and what is behind them. -/
theorem Rd.front {w : World} {g off n c q k : Nat} {xs : List Value} (h : Rd w (.slice (some ⟨g, off, none⟩) n c) q n xs) (hk : k ≤ n) (d : Nat) : Rd w (.slice (some ⟨g, off, none⟩) k d) q k (xs.take (k * q)) := by
  obtain ⟨A, c', e, hl, hc⟩ := h
  injection e with e1 _ _
  refine ⟨_, _, rfl, ?_, fun hp => ?_⟩
  · have : k * q ≤ n * q := Nat.mul_le_mul_right _ hk
    rw [List.length_take]
    omega
  · obtain ⟨b, o, e2, hcell⟩ := hc (by omega)
    rw [← e1] at e2
    refine ⟨b, o, e2, fun j u hu => hcell j u ?_⟩
    rw [List.getElem?_take] at hu
    split at hu
    · exact hu
    · cases hu
theorem Rd.back {w : World} {g off n c q k : Nat} {xs : List Value} (h : Rd w (.slice (some ⟨g, off, none⟩) n c) q n xs) (hk : k ≤ n) (d : Nat) : Rd w (.slice (some ⟨g, off + k * q, none⟩) (n - k) d) q (n - k) (xs.drop (k * q)) := by
  obtain ⟨A, c', e, hl, hc⟩ := h
  injection e with e1 _ _
  refine ⟨_, _, rfl, ?_, fun hp => ?_⟩
  · rw [List.length_drop, hl, Nat.sub_mul]
  · obtain ⟨b, o, e2, hcell⟩ := hc (by omega)
    rw [← e1] at e2
    injection e2 with e2
    injection e2 with e3 e4
    subst e3 e4
    refine ⟨_, _, rfl, fun j u hu => ?_⟩
    rw [List.getElem?_drop] at hu
    rw [Nat.add_assoc]
    exact hcell _ _ hu
theorem strs_take (k : Nat) (l : List ByteArray) : (strs l).take (k * 1) = strs (l.take k) := by
  unfold strs
  rw [Nat.mul_one, List.map_take]
theorem strs_drop (k : Nat) (l : List ByteArray) : (strs l).drop (k * 1) = strs (l.drop k) := by
  unfold strs
  rw [Nat.mul_one, List.map_drop]
end Go.Proofs.Ytmjogpacajbngaa

/- Regions that draw: an append that may be wanted; two that may come up; parts of a slice. No condition but those written. -/
import Derived.Test.YtkhjdhoaephdkaaDoorRow
import Derived.Test.YtkhjdhoaephdkaaDoorDraw
import Derived.RegionTactic
namespace Go.Proofs.YtkhjdhoaephdkaaDoor
open Go.RowKit

section
variable {P : Program} {ops : Array Oper} {Q : Exit → Act → World → Prop} {md : Region.Mode} {S : World → Prop} {D : List Nat}
/-- Two that may come up. -/
theorem wpAnyD_two {i j : Nat} {o p : Oper} {fuel : Nat} {listed : Array Bool} {a : Act} {w : World} (hr : Region.ready md ops listed = [i, j]) (ho : ops[i]? = some o) (hp : ops[j]? = some p)
    (h1 : ∀ K : Act → World → Prop, (∀ a' w', (D.contains i = false → S w → S w') → wpAnyD P md ops Q S D fuel (listed.setIfInBounds i true) a' w' → K a' w') → if Region.wanted o (yielded ops a.tmps) = true then Oper.wp P o a w K Q else K (a.put o.dst undef) w)
    (h2 : ∀ K : Act → World → Prop, (∀ a' w', (D.contains j = false → S w → S w') → wpAnyD P md ops Q S D fuel (listed.setIfInBounds j true) a' w' → K a' w') → if Region.wanted p (yielded ops a.tmps) = true then Oper.wp P p a w K Q else K (a.put p.dst undef) w) : wpAnyD P md ops Q S D (fuel + 1) listed a w := by
  refine wpAnyD_all hr (by simp) fun k hk => ?_
  rcases List.mem_cons.1 hk with rfl | hk
  · exact wpOp_step ho fun K hK => h1 K fun a' w' h1 h2 => hK a' w' ⟨h1, h2⟩
  · obtain rfl : k = j := by simpa using hk
    exact wpOp_step hp fun K hK => h2 K fun a' w' h1 h2 => hK a' w' ⟨h1, h2⟩
end
theorem step_append_w {P : Program} {ops : Array Oper} {o : Oper} {a : Act} {w : World} {K : Act → World → Prop} {Q : Exit → Act → World → Prop} {E : Prop} (hw : Region.wanted o (yielded ops a.tmps) = true) (s x : Operand) (t : TypeId)
    (ho : o.op = .call { callee := .builtin .append, args := #[s, x], argTypes := #[t, t] })
    (e : TypeId) (i : TypeInfo) (z : Value) (k bytes : Nat) (ht : P.underlying t = some (.slice e)) (hi : P.info? e = some i) (hz : i.zero = some z)
    (hsize : i.size = k) (hby : i.bytes = bytes) (hzs : z.cells.size = k) (v : Value) (n : Nat) (xs : List Value) (hs : a.eval s = v) (h : Sl w e k v n xs)
    (sv : Value) (hx : a.eval x = sv) (m : Nat) (news : List Value) (hr : Rd w sv k m news) (h1 : ∀ u ∈ news, u.oneCell' = true) (h63 : n + m ≤ maxLen) (hbytes : (n + m) * bytes ≤ 140737488355328)
    (hK : ∀ v' w', Sl w' e k v' (n + m) (xs ++ news) → Only (fun b => v.ownBlock = some b) w w' → (v'.ownBlock = v.ownBlock ∨ v'.ownBlock = some w.heap.size) → K (a.put o.dst v') w') :
    if Region.wanted o (yielded ops a.tmps) = true then Oper.wp P o a w K Q else E := by
  rw [if_pos hw]
  obtain ⟨v', w', hrun, h2, h3, h4⟩ := run_append_sl (P := P) w t o.type e i z k bytes ht hi hz hsize hby hzs v n xs h sv m news hr h1 h63 hbytes
  unfold Oper.wp execOp
  simp only [ho, resolve, invoke, builtin, Sem.run_bind, Sem.run_pure, Result.andThen_ok, List.map_toArray, List.map_cons, List.map_nil, hs, hx, hrun]
  exact hK v' w' h2 h3 h4
/-- The first k of a slice, and what is behind them. -/
theorem Rd.front {w : World} {g off n c q k : Nat} {xs : List Value} (h : Rd w (.slice (some ⟨g, off, none⟩) n c) q n xs) (hk : k ≤ n) (d : Nat) : Rd w (.slice (some ⟨g, off, none⟩) k d) q k (xs.take (k * q)) := by
  obtain ⟨A, c', e, hl, hc⟩ := h
  injection e with e1 _ _
  refine ⟨_, _, rfl, ?_, fun hp => ?_⟩
  · have : k * q ≤ n * q := Nat.mul_le_mul_right _ hk
    rw [List.length_take]
    omega
  · obtain ⟨b, o, e2, hcell⟩ := hc (by omega)
    rw [← e1] at e2
    refine ⟨b, o, e2, fun j u hu => hcell j u ?_⟩
    rw [List.getElem?_take] at hu
    split at hu
    · exact hu
    · cases hu
theorem Rd.back {w : World} {g off n c q k : Nat} {xs : List Value} (h : Rd w (.slice (some ⟨g, off, none⟩) n c) q n xs) (hk : k ≤ n) (d : Nat) : Rd w (.slice (some ⟨g, off + k * q, none⟩) (n - k) d) q (n - k) (xs.drop (k * q)) := by
  obtain ⟨A, c', e, hl, hc⟩ := h
  injection e with e1 _ _
  refine ⟨_, _, rfl, ?_, fun hp => ?_⟩
  · rw [List.length_drop, hl, Nat.sub_mul]
  · obtain ⟨b, o, e2, hcell⟩ := hc (by omega)
    rw [← e1] at e2
    injection e2 with e2
    injection e2 with e3 e4
    subst e3 e4
    refine ⟨_, _, rfl, fun j u hu => ?_⟩
    rw [List.getElem?_drop] at hu
    rw [Nat.add_assoc]
    exact hcell _ _ hu
theorem Rd.back_if {w : World} {g off n c q k : Nat} {xs : List Value} (h : Rd w (.slice (some ⟨g, off, none⟩) n c) q n xs) (hk : k ≤ n) (hn : n ≤ c) (d : Nat) : Rd w (.slice (if c = k then some ⟨g, off, none⟩ else some ⟨g, off + k * q, none⟩) (n - k) d) q (n - k) (xs.drop (k * q)) := by
  by_cases e : c = k
  · rw [if_pos e]
    obtain ⟨_, _, _, hl, _⟩ := h
    exact ⟨_, _, rfl, by rw [List.length_drop, hl, Nat.sub_mul], fun hp => by omega⟩
  · rw [if_neg e]
    exact h.back hk d
end Go.Proofs.YtkhjdhoaephdkaaDoor

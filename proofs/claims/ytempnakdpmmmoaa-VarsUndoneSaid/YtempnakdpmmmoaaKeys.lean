/- A map with integer keys, as the shelf's contracts on maps.Keys and slices.Sorted want it; a row of ints, as they give it. No condition but those written. -/
import Derived.Test.YtempnakdpmmmoaaBase
import Derived.Maps.Own
import Derived.Maps.Range
import Derived.Lib.SlKeysI
import Derived.WideShapes
namespace Go.Proofs.Ytempnakdpmmmoaa
open Go.RowKit Go.Maps Go.WideShapes

theorem nodup_of_rising : ∀ {l : List Nat}, l.Pairwise (· < ·) → l.Nodup := fun h => h.imp fun h => Nat.ne_of_lt h
/-- What the shelf's contracts want of a map. -/
theorem MapIs.owns {P : Program} {K : TypeId} (hK : P.underlying K = some (.int .i64)) {w : World} {b : Nat} {l : List (Int × Value)} (h : MapIs w b (l.map fun x => (.int .i64 x.1, x.2)))
    (hnd : (l.map (·.1)).Nodup) (hwf : ∀ x ∈ l, (Lit.int .i64 x.1).wf = true) (hlen : l.length ≤ maxLen) :
    ∃ D0 : DataW Unit, w.ownsMap P K (fun _ => some (.nil, [])) b l.length D0 ∧ (intKeys D0).Perm (l.map (·.1)) ∧ Maps.size D0 = l.length := by
  obtain ⟨es, clock, hb, he, hborn, hclock⟩ := h.holds
  have hsz : es.size = l.length := by
    have := congrArg List.length he
    simpa using this
  have hkeys : es.toList.map (·.key) = l.map fun x => Value.int .i64 x.1 := by
    have := congrArg (List.map Prod.fst) he
    simpa [List.map_map, Function.comp_def] using this
  have hrd : ∀ x ∈ es.toList, ∃ n : Int, x.key = .int .i64 n ∧ WideElems.rd P K (fun _ => some ((.nil : DataW Unit), [])) x = some (.int .i64 n, .nil) := fun x hx => by
    have hm : x.key ∈ l.map fun x => Value.int .i64 x.1 := by rw [← hkeys]; exact List.mem_map.2 ⟨x, hx, rfl⟩
    obtain ⟨y, hy, e⟩ := List.mem_map.1 hm
    refine ⟨y.1, e.symm, ?_⟩
    unfold WideElems.rd
    rw [← e, Maps.keyOf_int_mk hK (hwf y hy)]
    rfl
  refine ⟨.map ((es.toList.map (WideElems.rg P K fun _ => some ((.nil : DataW Unit), []))).foldr DataW.insert []), ⟨es, clock, hb, ⟨by omega, ⟨hclock, nodup_of_rising hborn, ?_⟩, fun x hx => ?_⟩, by omega, rfl⟩, ?_, ?_⟩
  · rw [hkeys]
    have e : (l.map fun x => Value.int .i64 x.1) = (l.map (·.1)).map (Value.int .i64) := by simp [List.map_map, Function.comp_def]
    rw [e]
    exact List.Pairwise.map _ (fun a b h e => h (by injection e)) hnd
  · obtain ⟨n, _, hr⟩ := hrd x hx
    exact ⟨_, hr⟩
  · unfold intKeys
    refine ((sorted_perm _).map _).trans ?_
    rw [List.map_map]
    have e : es.toList.map ((fun p : Lit × DataW Unit => intOf p.1) ∘ WideElems.rg P K fun _ => some ((.nil : DataW Unit), [])) = (es.toList.map (·.key)).map fun v => match v with
        | .int _ n => n
        | _ => 0 := by
      rw [List.map_map]
      refine List.map_congr_left fun x hx => ?_
      obtain ⟨n, hk, hr⟩ := hrd x hx
      simp [Function.comp, WideElems.rg, hr, hk, intOf]
    rw [e, hkeys, List.map_map]
    exact List.Perm.refl _
  · exact ((sorted_perm _).length_eq).trans (by simp [hsz])
/-- What they give: a slice of ours. -/
theorem sl_of_owns {w : World} {base : Nat} {T : TypeId} {v : Value} {n : Nat} {xs : List Value} (h : w.ownsRow base T 1 v n xs) : Sl w T 1 v n xs ∧ ∀ g, v.ownBlock = some g → base ≤ g := by
  obtain ⟨h1, h2⟩ := h
  refine ⟨⟨h1, ?_⟩, fun g hg => ?_⟩
  · rcases h2 with h2 | ⟨g, cap, cur, rfl, hb, hh, hn, hc, hs, ht⟩
    · exact .inl h2
    · exact .inr ⟨g, 0, cap, cur, rfl, hh, hn, hc, by omega, by simpa using ht⟩
  · rcases h2 with ⟨rfl, _⟩ | ⟨g', cap, cur, rfl, hb, _⟩
    · simp [Value.ownBlock] at hg
    · simp [Value.ownBlock] at hg
      omega
end Go.Proofs.Ytempnakdpmmmoaa

/- The walk of NamesCells: it returns true and leaves everything that was there as it was, under the tables of utf8 alone. -/
import Derived.Test.YtkhjdhoaephdkaaDoorNamPropsW
import Derived.Test.YtkhjdhoaephdkaaDoorNamFull
import Derived.Deep.RegionHeld3
namespace Go.Proofs.YtkhjdhoaephdkaaDoor
open Go.RowKit

/-- A table made since W, and blocks beside it. -/
structure One (W : World) (ta : Nat) (A : List Sym) (R : List (Nat × TypeId × Array Value)) (w : World) : Prop where
  tabs : ∃ F, TableIs w ta A F ∧ (∀ k, F k → W.heap.size ≤ k) ∧ (∀ x ∈ R, ¬ F x.1)
  kept : ∀ x ∈ R, Blk w x.1 x.2.1 x.2.2
  bel : Below W.heap.size W w

section
variable {W w w' : World} {ta : Nat} {A A' : List Sym} {R : List (Nat × TypeId × Array Value)}
theorem One.act (h : One W ta A R w) {P : Ending → World → Prop} {f : Nat} {args : Array Value} {A' : List Sym} (hc : ∀ F, TableIs w ta A F → Calls Tryd.prog f args w fun e w' => P e w' ∧ Left w ta A' F w') :
    Calls Tryd.prog f args w fun e w' => P e w' ∧ One W ta A' R w' := by
  obtain ⟨F, h1, h4, h6⟩ := h.tabs
  refine (hc F h1).mono ?_
  rintro e w' ⟨hp, hl⟩
  have hs := h.bel.size
  refine ⟨hp, ⟨grow F w w', hl.1, fun k hk => ?_, fun x hx hk => ?_⟩, fun x hx => (h.kept x hx).only hl.2 (h6 x hx), h.bel.trans (hl.2.below hs h4)⟩
  · rcases hk with hk | hk
    · exact h4 k hk
    · have := hk.1
      omega
  · rcases hk with hk | hk
    · exact h6 x hx hk
    · have := (h.kept x hx).lt
      have := hk.1
      omega
theorem One.act' (h : One W ta A R w) {P : Ending → World → Prop} {f : Nat} {args : Array Value} {B : Nat → List Sym} (hc : ∀ F, TableIs w ta A F → Calls Tryd.prog f args w fun e w' => P e w' ∧ ∃ b, Left w ta (B b) F w') :
    Calls Tryd.prog f args w fun e w' => P e w' ∧ ∃ b, One W ta (B b) R w' := by
  obtain ⟨F, h1, h4, h6⟩ := h.tabs
  refine (hc F h1).mono ?_
  rintro e w' ⟨hp, b, hl⟩
  have hs := h.bel.size
  refine ⟨hp, b, ⟨grow F w w', hl.1, fun k hk => ?_, fun x hx hk => ?_⟩, fun x hx => (h.kept x hx).only hl.2 (h6 x hx), h.bel.trans (hl.2.below hs h4)⟩
  · rcases hk with hk | hk
    · exact h4 k hk
    · have := hk.1
      omega
  · rcases hk with hk | hk
    · exact h6 x hx hk
    · have := (h.kept x hx).lt
      have := hk.1
      omega
theorem One.below (h : One W ta A R w) (hb : Below w.heap.size w w') : One W ta A R w' := by
  obtain ⟨F, h1, h4, h6⟩ := h.tabs
  exact ⟨⟨F, h1.below hb, h4, h6⟩, fun x hx => (h.kept x hx).below hb (h.kept x hx).lt, h.bel.trans (hb.mono h.bel.size)⟩
theorem One.box (h : One W ta A R w) (t : TypeId) (cs : Array Value) : One W ta A ((w.heap.size, t, cs) :: R) (w.alloc (.cells cs t)) := by
  have hb := (Below.refl w.heap.size w).alloc (Nat.le_refl _) (.cells cs t)
  have h' := h.below hb
  obtain ⟨F, h1, h4, h6⟩ := h.tabs
  refine ⟨⟨F, h1.below hb, h4, fun x hx => ?_⟩, fun x hx => ?_, h'.bel⟩
  · rcases List.mem_cons.1 hx with rfl | hx
    · exact fun hk => Nat.lt_irrefl _ (h1.bound _ hk)
    · exact h6 x hx
  · rcases List.mem_cons.1 hx with rfl | hx
    · exact Blk.new w t cs
    · exact h'.kept x hx
theorem One.tab (h : One W ta A R w) : ∃ F, TableIs w ta A F := by
  obtain ⟨F, h1, _⟩ := h.tabs
  exact ⟨F, h1⟩
/-- Where the last block is another than that of symbol n: a store into symbol m. -/
theorem at_other {L : List Sym} {n m : Nat} {y x : Sym} (hnm : n ≠ m) (h : L[n]? = some x) : (L.set m y)[n]? = some x := by
  rw [List.getElem?_set_ne (fun e => hnm e.symm)]
  exact h
theorem at_self {L : List Sym} {n : Nat} {x y : Sym} (h : L[n]? = some x) : (L.set n y)[n]? = some y := by
  have := (List.getElem?_eq_some_iff.1 h).1
  simp [this]
end
theorem fixed_pm {k : Nat} {x : Sym} (h : fixedSyms[k]? = some x) : x.pm = none ∧ x.props = [] := by
  have : x ∈ fixedSyms := List.mem_of_getElem? h
  simp only [fixedSyms, symsOf, List.mem_map] at this
  obtain ⟨s, _, rfl⟩ := this
  exact ⟨rfl, rfl⟩
theorem set_len (L : List Sym) (n : Nat) (x : Sym) : (L.set n x).length = L.length := List.length_set

/-! ### One symbol twice -/
set_option maxRecDepth 100000 in
set_option maxHeartbeats 4000000 in
theorem cells_same (a b key vk vn wk wn : Int) (W : World) (hT : Tabs W) (hab : pickZ a 60 = pickZ b 60) :
    Calls Tryd.prog 7 #[.int .i64 a, .int .i64 b, .int .i64 key, .agg #[.int .i64 vk, .int .i64 vn], .agg #[.int .i64 wk, .int .i64 wn]] W fun e w' => e = .returned (.bool true) ∧ Below W.heap.size W w' := by
  have hB0 : Below W.heap.size W ((W.alloc (.cells #[.int .i64 vk, .int .i64 vn] 44)).alloc (.cells #[.int .i64 wk, .int .i64 wn] 44)) := ((Below.refl _ _).alloc (Nat.le_refl _) _).alloc (by simp) _
  have v0 : Blk ((W.alloc (.cells #[.int .i64 vk, .int .i64 vn] 44)).alloc (.cells #[.int .i64 wk, .int .i64 wn] 44)) W.heap.size 44 #[.int .i64 vk, .int .i64 vn] := (Blk.new _ _ _).alloc _
  have v1 : Blk ((W.alloc (.cells #[.int .i64 vk, .int .i64 vn] 44)).alloc (.cells #[.int .i64 wk, .int .i64 wn] 44)) (W.heap.size + 1) 44 #[.int .i64 wk, .int .i64 wn] := by simpa using Blk.new (W.alloc (.cells #[.int .i64 vk, .int .i64 vn] 44)) 44 #[.int .i64 wk, .int .i64 wn]
  obtain ⟨p, hp, hp2⟩ : ∃ p : Nat, pickZ a 60 = (p : Int) ∧ p < 60 := ⟨(pickZ a 60).toNat, by have := pickZ_ge (n := a) (k := 60) (by decide); omega, by have := pickZ_lt (n := a) (k := 60) (by decide); have := pickZ_ge (n := a) (k := 60) (by decide); omega⟩
  have HPA := hide fun w => (show Calls Tryd.prog 25 #[.int .i64 a, .int .i64 60] w fun e w' => e = .returned (.int .i64 (p : Int)) ∧ w = w' from hp ▸ pick_any a 60 w (by decide) (by decide))
  have HPB := hide fun w => (show Calls Tryd.prog 25 #[.int .i64 b, .int .i64 60] w fun e w' => e = .returned (.int .i64 (p : Int)) ∧ w = w' from (hab.symm.trans hp) ▸ pick_any b 60 w (by decide) (by decide))
  have HPK := hide fun w => pick_any key 62 w (by decide) (by decide)
  have HT := hide (hT.below hB0)
  have HB0 := hide hB0
  have HV0 := hide v0
  have HV1 := hide v1
  clear hT hB0 v0 v1 hp hab
  generalize pickZ key 62 = z at *
  go_enter Tryd.func7, Tryd.ntmps7
  go_wp2_with fail
  generalize (W.alloc (.cells #[.int .i64 vk, .int .i64 vn] 44)).alloc (.cells #[.int .i64 wk, .int .i64 wn] 44) = w0 at *
  refine (lives_any w0 HT.out).mono ?_
  rintro e w1 ⟨rfl, b1⟩
  have HB1 := hide b1
  clear b1
  go_wp2_with fail
  refine (new_any w1).mono ?_
  rintro e w2 ⟨ta, rfl, ht, hb2⟩
  have hS : One w1 ta fixedSyms [] w2 := ⟨⟨_, ht, fun k hk => hk.1, fun x hx => by simp at hx⟩, fun x hx => by simp at hx, hb2⟩
  clear ht hb2
  have HVV := hide fun (w' : World) (hb : Below w1.heap.size w1 w') => (show w'.cell? ⟨W.heap.size, 0, none⟩ = some (.int .i64 vk) ∧ w'.cell? ⟨W.heap.size, 1, none⟩ = some (.int .i64 vn) ∧ w'.cell? ⟨W.heap.size + 1, 0, none⟩ = some (.int .i64 wk) ∧ w'.cell? ⟨W.heap.size + 1, 1, none⟩ = some (.int .i64 wn) from by
    have hs1 := HB1.out.size
    have l0 := HV0.out.lt
    have l1 := HV1.out.lt
    have q0 := (HV0.out.below HB1.out l0).below hb (by omega)
    have q1 := (HV1.out.below HB1.out l1).below hb (by omega)
    exact ⟨q0.cell 0, q0.cell 1, q1.cell 0, q1.cell 1⟩)
  have hk2 : (((2 + p : Nat)) : Int) = 2 + (p : Int) := by omega
  obtain ⟨X, hX⟩ : ∃ X, fixedSyms[2 + p]? = some X := ⟨_, List.getElem?_eq_getElem (by rw [fixedSyms_len]; omega)⟩
  have HS := hide hS
  obtain ⟨k0, k1, k2, k3⟩ := HVV.out w2 hS.bel
  have HK2 := hide hk2
  have HX := hide hX
  have hf3 := hS.act (P := fun r _ => r = .returned (.int .i64 0)) fun _ hF => setfunc_ok hF (2 + p) X hX (by omega) vk vn
  rw [hk2] at hf3
  have HF3 := hide hf3
  clear hS hk2 hX hf3
  go_wp2_with fail
  refine Calls.mono (HPA.out w2) ?_
  rintro e' w3 ⟨rfl, rfl⟩
  go_wp2_with fail
  refine Calls.mono (HPB.out w2) ?_
  rintro e' w3 ⟨rfl, rfl⟩
  go_wp2_with fail
  refine Calls.mono (HPK.out w2) ?_
  rintro e' w3 ⟨rfl, rfl⟩
  clear HPA HPB HPK
  go_wp2_with fail
  refine (Calls.mono HF3.out) ?_
  rintro e' w3 ⟨rfl, h3⟩
  clear HF3 k0 k1 k2 k3 HS
  obtain ⟨k0, k1, k2, k3⟩ := HVV.out w3 h3.bel
  have hf4 := h3.act (P := fun r _ => r = .returned (.int .i64 0)) fun _ hF => setfunc_ok hF (2 + p) _ (at_self HX.out) (by omega) wk wn
  rw [HK2.out] at hf4
  have HF4 := hide hf4
  clear h3 hf4
  go_wp2_with fail
  refine (Calls.mono HF4.out) ?_
  rintro e' w4 ⟨rfl, h4⟩
  clear HF4 k0 k1 k2 k3
  have hf5 := h4.act (P := fun r _ => r = .returned (.int .i64 0)) fun _ hF => clearfunc_ok hF (2 + p) _ (at_self (at_self HX.out)) (by omega)
  rw [HK2.out] at hf5
  have HF5 := hide hf5
  clear h4 hf5
  go_wp2_with fail
  refine (Calls.mono HF5.out) ?_
  rintro e' w5 ⟨rfl, h5⟩
  clear HF5
  have hf6 := h5.act (P := fun r _ => r = .returned (.int .i64 0)) fun _ hF => clearfunc_ok hF (2 + p) _ (at_self (at_self (at_self HX.out))) (by omega)
  rw [HK2.out] at hf6
  have HF6 := hide hf6
  clear h5 hf6
  go_wp2_with fail
  refine (Calls.mono HF6.out) ?_
  rintro e' w6 ⟨rfl, h6⟩
  have HBEL := hide (HB0.out.trans ((HB1.out.trans (h6.bel.mono HB1.out.size)).mono HB0.out.size))
  clear HF6 h6
  go_wp2_with fail
  go_ret
  exact ⟨rfl, HBEL.out⟩
end Go.Proofs.YtkhjdhoaephdkaaDoor

/- The walk of NamesCells at two symbols; both walks together. -/
import Derived.Test.YtkhjdhoaephdkaaDoorNamCells
namespace Go.Proofs.YtkhjdhoaephdkaaDoor
open Go.RowKit

theorem pick_next {z : Int} (h0 : 0 ≤ z) (h1 : z < 62) : pickZ (z + 1) 62 ≠ z := by
  have e : (z + 1).tmod 62 = if z = 61 then 0 else z + 1 := by
    split
    · next h => subst h; rfl
    · exact Int.tmod_eq_of_lt (by omega) (by omega)
  unfold pickZ
  rw [e]
  by_cases h : z = 61
  · subst h
    decide
  · rw [if_neg h, if_neg (by omega)]
    omega
/-- What is held through the last statement. -/
def KeptC (W1 : World) (ta : Nat) (A : List Sym) (R : List (Nat × TypeId × Array Value)) (o1 o2 o3 o4 g8 g9 : Nat) (vk vn wk wn : Int) (w : World) : Prop := w.cell? ⟨o1, 0, none⟩ = some (.int .i64 vk) ∧ w.cell? ⟨o1, 1, none⟩ = some (.int .i64 vn) ∧ w.cell? ⟨o2, 0, none⟩ = some (.int .i64 wk) ∧ w.cell? ⟨o2, 1, none⟩ = some (.int .i64 wn) ∧ w.cell? ⟨o3, 0, none⟩ = some (.int .i64 vk) ∧ w.cell? ⟨o3, 1, none⟩ = some (.int .i64 vn) ∧ w.cell? ⟨o4, 0, none⟩ = some (.int .i64 vk) ∧ w.cell? ⟨o4, 1, none⟩ = some (.int .i64 vn) ∧ w.cell? ⟨g8, 0, none⟩ = some (.int .i64 vk) ∧ w.cell? ⟨g8, 1, none⟩ = some (.int .i64 vn) ∧ w.cell? ⟨g9, 0, none⟩ = some (.int .i64 wk) ∧ w.cell? ⟨g9, 1, none⟩ = some (.int .i64 wn) ∧ One W1 ta A R w
theorem keepC {W1 w w' : World} {ta : Nat} {A : List Sym} {R : List (Nat × TypeId × Array Value)} {o1 o2 o3 o4 g8 g9 : Nat} {vk vn wk wn : Int} (hb : Below w.heap.size w w') (h : KeptC W1 ta A R o1 o2 o3 o4 g8 g9 vk vn wk wn w) : KeptC W1 ta A R o1 o2 o3 o4 g8 g9 vk vn wk wn w' := by
  have go : ∀ {p : Addr} {u : Value}, w.cell? p = some u → w'.cell? p = some u := fun {p u} hc => (World.cell?_of_block (hb.block p.block (World.block_lt_of_cell? _ _ hc))).trans hc
  obtain ⟨h1, h2, h3, h4, h5, h6, h7, h8, h9, h10, h11, h12, h13⟩ := h
  exact ⟨go h1, go h2, go h3, go h4, go h5, go h6, go h7, go h8, go h9, go h10, go h11, go h12, h13.below hb⟩
theorem keepA {W1 w : World} {ta : Nat} {A : List Sym} {R : List (Nat × TypeId × Array Value)} {o1 o2 o3 o4 g8 g9 : Nat} {vk vn wk wn : Int} (o : Obj) (h : KeptC W1 ta A R o1 o2 o3 o4 g8 g9 vk vn wk wn w) : KeptC W1 ta A R o1 o2 o3 o4 g8 g9 vk vn wk wn (w.alloc o) := keepC ((Below.refl _ _).alloc (Nat.le_refl _) o) h
theorem keepOne {W1 w : World} {ta : Nat} {A : List Sym} {R : List (Nat × TypeId × Array Value)} {o1 o2 o3 o4 g8 g9 : Nat} {vk vn wk wn : Int} (h : KeptC W1 ta A R o1 o2 o3 o4 g8 g9 vk vn wk wn w) : One W1 ta A R w := h.2.2.2.2.2.2.2.2.2.2.2.2
theorem below_dn (w : World) (n : Nat) : Below w.heap.size w (w.drewN n) := ⟨rfl, rfl, rfl, Nat.le_refl _, fun _ _ => rfl⟩
theorem sort_one (z wk wn : Int) : sortP [(z, wk, wn)] = [(z, wk, wn)] := by simp [sortP, pget]

set_option maxRecDepth 100000 in
set_option maxHeartbeats 8000000 in
theorem cells_two (a b key vk vn wk wn : Int) (W : World) (hT : Tabs W) (hab : pickZ a 60 ≠ pickZ b 60) :
    Calls Tryd.prog 7 #[.int .i64 a, .int .i64 b, .int .i64 key, .agg #[.int .i64 vk, .int .i64 vn], .agg #[.int .i64 wk, .int .i64 wn]] W fun e w' => e = .returned (.bool true) ∧ Below W.heap.size W w' := by
  have hB0 : Below W.heap.size W ((W.alloc (.cells #[.int .i64 vk, .int .i64 vn] 44)).alloc (.cells #[.int .i64 wk, .int .i64 wn] 44)) := ((Below.refl _ _).alloc (Nat.le_refl _) _).alloc (by simp) _
  have v0 : Blk ((W.alloc (.cells #[.int .i64 vk, .int .i64 vn] 44)).alloc (.cells #[.int .i64 wk, .int .i64 wn] 44)) W.heap.size 44 #[.int .i64 vk, .int .i64 vn] := (Blk.new _ _ _).alloc _
  have v1 : Blk ((W.alloc (.cells #[.int .i64 vk, .int .i64 vn] 44)).alloc (.cells #[.int .i64 wk, .int .i64 wn] 44)) (W.heap.size + 1) 44 #[.int .i64 wk, .int .i64 wn] := by simpa using Blk.new (W.alloc (.cells #[.int .i64 vk, .int .i64 vn] 44)) 44 #[.int .i64 wk, .int .i64 wn]
  have getp : ∀ n : Int, ∃ p : Nat, pickZ n 60 = (p : Int) ∧ p < 60 := fun n => ⟨(pickZ n 60).toNat, by have := pickZ_ge (n := n) (k := 60) (by decide); omega, by have := pickZ_lt (n := n) (k := 60) (by decide); have := pickZ_ge (n := n) (k := 60) (by decide); omega⟩
  obtain ⟨p, hp, hp2⟩ := getp a
  obtain ⟨q, hq, hq2⟩ := getp b
  have hpq : p ≠ q := fun e => hab (by rw [hp, hq, e])
  have HPA := hide fun w => (show Calls Tryd.prog 25 #[.int .i64 a, .int .i64 60] w fun e w' => e = .returned (.int .i64 (p : Int)) ∧ w = w' from hp ▸ pick_any a 60 w (by decide) (by decide))
  have HPB := hide fun w => (show Calls Tryd.prog 25 #[.int .i64 b, .int .i64 60] w fun e w' => e = .returned (.int .i64 (q : Int)) ∧ w = w' from hq ▸ pick_any b 60 w (by decide) (by decide))
  have HPK := hide fun w => pick_any key 62 w (by decide) (by decide)
  have z0 := pickZ_ge (n := key) (k := 62) (by decide)
  have z1 := pickZ_lt (n := key) (k := 62) (by decide)
  have HT := hide (hT.below hB0)
  have HB0 := hide hB0
  have HV0 := hide v0
  have HV1 := hide v1
  have HPQ := hide (show 2 + p ≠ 2 + q by omega)
  have hz1 : decide (p = q) = false := decide_eq_false hpq
  have hnpq : ¬ p = q := hpq
  have hz2 : decide (2 + (p : Int) = 2 + (q : Int)) = false := decide_eq_false (by omega)
  have hz3 : decide ((p : Int) = (q : Int)) = false := decide_eq_false (by omega)
  clear hT hB0 v0 v1 hp hq hab getp hpq
  generalize pickZ key 62 = z at *
  have HPN := hide fun w => pick_any (z + 1) 62 w (by decide) (by decide)
  have HZN := hide (pick_next z0 z1)
  go_enter Tryd.func7, Tryd.ntmps7
  go_wp2_with fail
  generalize (W.alloc (.cells #[.int .i64 vk, .int .i64 vn] 44)).alloc (.cells #[.int .i64 wk, .int .i64 wn] 44) = w0 at *
  refine (lives_any w0 HT.out).mono ?_
  rintro e w1 ⟨rfl, b1⟩
  have HB1 := hide b1
  clear b1
  go_wp2_with fail
  refine (new_any w1).mono ?_
  rintro e w2 ⟨ta, rfl, ht, hb2⟩
  have hS : One w1 ta fixedSyms [] w2 := ⟨⟨_, ht, fun k hk => hk.1, fun x hx => by simp at hx⟩, fun x hx => by simp at hx, hb2⟩
  clear ht hb2
  have HVV := hide fun (w' : World) (hb : Below w1.heap.size w1 w') => (show w'.cell? ⟨W.heap.size, 0, none⟩ = some (.int .i64 vk) ∧ w'.cell? ⟨W.heap.size, 1, none⟩ = some (.int .i64 vn) ∧ w'.cell? ⟨W.heap.size + 1, 0, none⟩ = some (.int .i64 wk) ∧ w'.cell? ⟨W.heap.size + 1, 1, none⟩ = some (.int .i64 wn) from by
    have hs1 := HB1.out.size
    have l0 := HV0.out.lt
    have l1 := HV1.out.lt
    have q0 := (HV0.out.below HB1.out l0).below hb (by omega)
    have q1 := (HV1.out.below HB1.out l1).below hb (by omega)
    exact ⟨q0.cell 0, q0.cell 1, q1.cell 0, q1.cell 1⟩)
  have hkp : (((2 + p : Nat)) : Int) = 2 + (p : Int) := by omega
  have hkq : (((2 + q : Nat)) : Int) = 2 + (q : Int) := by omega
  obtain ⟨X, hX⟩ : ∃ X, fixedSyms[2 + p]? = some X := ⟨_, List.getElem?_eq_getElem (by rw [fixedSyms_len]; omega)⟩
  obtain ⟨Y, hY⟩ : ∃ Y, fixedSyms[2 + q]? = some Y := ⟨_, List.getElem?_eq_getElem (by rw [fixedSyms_len]; omega)⟩
  obtain ⟨k0, k1, k2, k3⟩ := HVV.out w2 hS.bel
  have HKP := hide hkp
  have HKQ := hide hkq
  have HX := hide hX
  have HY := hide hY
  have hf3 := hS.act (P := fun r _ => r = .returned (.int .i64 0)) fun _ hF => setfunc_ok hF (2 + p) X hX (by omega) vk vn
  rw [hkp] at hf3
  have HF3 := hide hf3
  clear hS hkp hkq hX hY hf3
  go_wp2_with fail
  refine Calls.mono (HPA.out w2) ?_
  rintro e' w3 ⟨rfl, rfl⟩
  go_wp2_with fail
  refine Calls.mono (HPB.out w2) ?_
  rintro e' w3 ⟨rfl, rfl⟩
  go_wp2_with fail
  refine Calls.mono (HPK.out w2) ?_
  rintro e' w3 ⟨rfl, rfl⟩
  clear HPA HPB HPK
  go_wp2_with fail
  refine (Calls.mono HF3.out) ?_
  rintro e' w3 ⟨rfl, h3⟩
  clear HF3 k0 k1 k2 k3
  obtain ⟨k0, k1, k2, k3⟩ := HVV.out w3 h3.bel
  have hlen3 : (fixedSyms.set (2 + p) (withFn X vk vn true)).length = 62 := by rw [set_len, fixedSyms_len]
  have hf4 := h3.act' (P := fun r _ => r = .returned (.int .i64 0)) fun _ hF => setprop_new hF (2 + p) _ (at_self HX.out) (fixed_pm HX.out).1 z ⟨z0, by rw [hlen3]; exact z1⟩ wk wn
  rw [HKP.out] at hf4
  have HF4 := hide hf4
  clear h3 hf4 hlen3
  go_wp2_with fail
  refine (Calls.mono HF4.out) ?_
  rintro e' w4 ⟨rfl, b1, h4⟩
  clear HF4 k0 k1 k2 k3
  obtain ⟨k0, k1, k2, k3⟩ := HVV.out w4 h4.bel
  have hy4 : ((fixedSyms.set (2 + p) (withFn X vk vn true)).set (2 + p) (withProps (withFn X vk vn true) b1 [(z, wk, wn)]))[2 + q]? = some Y := at_other HPQ.out.symm (at_other HPQ.out.symm HY.out)
  have HX4 := hide (show ((fixedSyms.set (2 + p) (withFn X vk vn true)).set (2 + p) (withProps (withFn X vk vn true) b1 [(z, wk, wn)]))[2 + p]? = some (withProps (withFn X vk vn true) b1 [(z, wk, wn)]) from at_self (at_self HX.out))
  have HL4 := hide (show ((fixedSyms.set (2 + p) (withFn X vk vn true)).set (2 + p) (withProps (withFn X vk vn true) b1 [(z, wk, wn)])).length = 62 by rw [set_len, set_len, fixedSyms_len])
  generalize (fixedSyms.set (2 + p) (withFn X vk vn true)).set (2 + p) (withProps (withFn X vk vn true) b1 [(z, wk, wn)]) = L4 at h4 hy4 HX4 HL4
  have hf5 := h4.act (P := fun r _ => r = .returned (.int .i64 0)) fun _ hF => setfunc_ok hF (2 + q) Y hy4 (by omega) wk wn
  rw [HKQ.out] at hf5
  have HF5 := hide hf5
  have HY4 := hide hy4
  clear h4 hf5 hy4
  go_wp2_with fail
  refine (Calls.mono HF5.out) ?_
  rintro e' w5 ⟨rfl, h5⟩
  clear HF5 k0 k1 k2 k3
  obtain ⟨k0, k1, k2, k3⟩ := HVV.out w5 h5.bel
  have hf6 := h5.act' (P := fun r _ => r = .returned (.int .i64 0)) fun _ hF => setprop_new hF (2 + q) _ (at_self HY4.out) (fixed_pm HY.out).1 z ⟨z0, by rw [set_len, HL4.out]; exact z1⟩ vk vn
  rw [HKQ.out] at hf6
  have HF6 := hide hf6
  clear h5 hf6
  go_wp2_with fail
  refine (Calls.mono HF6.out) ?_
  rintro e' w6 ⟨rfl, b2, h6⟩
  clear HF6 k0 k1 k2 k3
  have HX6 := hide (show ((L4.set (2 + q) (withFn Y wk wn true)).set (2 + q) (withProps (withFn Y wk wn true) b2 [(z, vk, vn)]))[2 + p]? = some (withProps (withFn X vk vn true) b1 [(z, wk, wn)]) from at_other HPQ.out (at_other HPQ.out HX4.out))
  have HY6 := hide (show ((L4.set (2 + q) (withFn Y wk wn true)).set (2 + q) (withProps (withFn Y wk wn true) b2 [(z, vk, vn)]))[2 + q]? = some (withProps (withFn Y wk wn true) b2 [(z, vk, vn)]) from at_self (at_self HY4.out))
  generalize (L4.set (2 + q) (withFn Y wk wn true)).set (2 + q) (withProps (withFn Y wk wn true) b2 [(z, vk, vn)]) = L6 at h6 HX6 HY6
  have HH6 := hide h6
  obtain ⟨F, hF⟩ := h6.tab
  have hfn : Calls Tryd.prog 27 #[.pointer (some ⟨ta, 0, none⟩), .int .i64 ((2 + p : Nat) : Int)] w6 fun e w' => e = .returned (.tuple #[.agg #[.int .i64 vk, .int .i64 vn], .bool true]) ∧ Below w6.heap.size w6 w' := func_any hF (2 + p) _ HX6.out
  rw [HKP.out] at hfn
  have HFN := hide hfn
  clear hF hfn h6
  go_wp2_with fail
  refine (Calls.mono HFN.out) ?_
  rintro e' w9 ⟨rfl, hb9⟩
  have h9 := (HH6.out.below hb9).box 44 #[.int .i64 vk, .int .i64 vn]
  clear hb9 HFN HH6
  obtain ⟨F, hF⟩ := h9.tab
  have hfn := prop_some hF (2 + p) _ HX6.out b1 rfl z wk wn (by simp [pget, withProps])
  rw [HKP.out] at hfn
  have HFN := hide hfn
  have HH9 := hide h9
  clear hF hfn h9
  go_wp2_with fail
  refine (Calls.mono HFN.out) ?_
  rintro e' w10 ⟨rfl, hb10⟩
  have h10 := (HH9.out.below hb10).box 44 #[.int .i64 wk, .int .i64 wn]
  clear hb10 HFN HH9
  obtain ⟨F, hF⟩ := h10.tab
  have hzn := HZN.out
  have hfn := prop_absent hF (2 + p) _ HX6.out b1 rfl (pickZ (z + 1) 62) (by simp [pget, withProps, List.find?_cons, hzn])
  rw [HKP.out] at hfn
  have HFN := hide hfn
  have HH10 := hide h10
  clear hF hfn h10 hzn
  go_wp2_with fail
  refine (HPN.out _).mono ?_
  rintro e' w11 ⟨rfl, rfl⟩
  go_wp2_with fail
  refine (Calls.mono HFN.out) ?_
  rintro e' w11 ⟨rfl, hb11⟩
  have h11 := (HH10.out.below hb11).box 44 #[.int .i64 0, .int .i64 0]
  clear hb11 HFN HH10 HPN HZN
  have hf12 := h11.act (P := fun r _ => r = .returned (.int .i64 0)) fun _ hF => clearfunc_ok hF (2 + q) _ HY6.out (by omega)
  rw [HKQ.out] at hf12
  have HF12 := hide hf12
  clear h11 hf12
  go_wp2_with fail
  refine (Calls.mono HF12.out) ?_
  rintro e' w12 ⟨rfl, h12⟩
  clear HF12
  have HX12 := hide (at_other (y := withFn (withProps (withFn Y wk wn true) b2 [(z, vk, vn)]) 0 0 false) HPQ.out HX6.out)
  have HY12 := hide (at_self (y := withFn (withProps (withFn Y wk wn true) b2 [(z, vk, vn)]) 0 0 false) HY6.out)
  generalize L6.set (2 + q) (withFn (withProps (withFn Y wk wn true) b2 [(z, vk, vn)]) 0 0 false) = L12 at h12 HX12 HY12
  obtain ⟨F, hF⟩ := h12.tab
  have hfn : Calls Tryd.prog 27 #[.pointer (some ⟨ta, 0, none⟩), .int .i64 ((2 + q : Nat) : Int)] w12 fun e w' => e = .returned (.tuple #[.agg #[.int .i64 0, .int .i64 0], .bool false]) ∧ Below w12.heap.size w12 w' := func_any hF (2 + q) _ HY12.out
  rw [HKQ.out] at hfn
  have HFN := hide hfn
  have HH12 := hide h12
  clear hF hfn h12
  go_wp2_with fail
  refine (Calls.mono HFN.out) ?_
  rintro e' w13 ⟨rfl, hb13⟩
  have h13 := (HH12.out.below hb13).box 44 #[.int .i64 0, .int .i64 0]
  clear hb13 HFN HH12
  obtain ⟨F, hF⟩ := h13.tab
  have hfn := prop_some hF (2 + q) _ HY12.out b2 rfl z vk vn (by simp [pget, withProps, withFn])
  rw [HKQ.out] at hfn
  have HFN := hide hfn
  have HH13 := hide h13
  clear hF hfn h13
  go_wp2_with fail
  refine (Calls.mono HFN.out) ?_
  rintro e' w14 ⟨rfl, hb14⟩
  have h14 := (HH13.out.below hb14).box 44 #[.int .i64 vk, .int .i64 vn]
  clear hb14 HFN HH13
  obtain ⟨F, hF⟩ := h14.tab
  have hfn : Calls Tryd.prog 27 #[.pointer (some ⟨ta, 0, none⟩), .int .i64 ((2 + p : Nat) : Int)] (w14.alloc (.cells #[.int .i64 vk, .int .i64 vn] 44)) fun e w' => e = .returned (.tuple #[.agg #[.int .i64 vk, .int .i64 vn], .bool true]) ∧ Below (w14.alloc (.cells #[.int .i64 vk, .int .i64 vn] 44)).heap.size (w14.alloc (.cells #[.int .i64 vk, .int .i64 vn] 44)) w' := func_any hF (2 + p) _ HX12.out
  rw [HKP.out] at hfn
  have HFN := hide hfn
  have HH14 := hide h14
  clear hF hfn h14
  go_wp2_with fail
  refine (Calls.mono HFN.out) ?_
  rintro e' w15 ⟨rfl, hb15⟩
  have h15 := ((HH14.out.below hb15).box 44 #[.int .i64 vk, .int .i64 vn]).below (Below.refl _ _).drew
  clear hb15 HFN HH14
  obtain ⟨k0, k1, k2, k3⟩ := HVV.out _ h15.bel
  obtain ⟨R, hK⟩ : ∃ R, KeptC w1 ta L12 R w9.heap.size w10.heap.size w14.heap.size w15.heap.size W.heap.size (W.heap.size + 1) vk vn wk wn (w15.alloc (.cells #[.int .i64 vk, .int .i64 vn] 44)).drew := ⟨_,
    ⟨(h15.kept _ (List.mem_cons_of_mem _ (List.mem_cons_of_mem _ (List.mem_cons_of_mem _ (List.mem_cons_of_mem _ (List.mem_cons_of_mem _ (List.mem_cons_self ..))))))).cell 0, (h15.kept _ (List.mem_cons_of_mem _ (List.mem_cons_of_mem _ (List.mem_cons_of_mem _ (List.mem_cons_of_mem _ (List.mem_cons_of_mem _ (List.mem_cons_self ..))))))).cell 1,
     (h15.kept _ (List.mem_cons_of_mem _ (List.mem_cons_of_mem _ (List.mem_cons_of_mem _ (List.mem_cons_of_mem _ (List.mem_cons_self ..)))))).cell 0, (h15.kept _ (List.mem_cons_of_mem _ (List.mem_cons_of_mem _ (List.mem_cons_of_mem _ (List.mem_cons_of_mem _ (List.mem_cons_self ..)))))).cell 1,
     (h15.kept _ (List.mem_cons_of_mem _ (List.mem_cons_self ..))).cell 0, (h15.kept _ (List.mem_cons_of_mem _ (List.mem_cons_self ..))).cell 1, (h15.kept _ (List.mem_cons_self ..)).cell 0, (h15.kept _ (List.mem_cons_self ..)).cell 1, k0, k1, k2, k3, h15⟩⟩
  have HK := hide hK
  have HONE := hide fun (w : World) (h : KeptC w1 ta L12 R w9.heap.size w10.heap.size w14.heap.size w15.heap.size W.heap.size (W.heap.size + 1) vk vn wk wn w) => keepOne h
  have hwf : (Lit.int .i64 z).wf = true := by simp [Lit.wf, IntKind.min, IntKind.max, IntKind.signed, IntKind.bits]; omega
  have HPR := hide fun (w : World) (h : One w1 ta L12 R w) => (show Calls Tryd.prog 31 #[.pointer (some ⟨ta, 0, none⟩), .int .i64 (2 + (p : Int))] w fun e w' => ∃ v, e = .returned v ∧ Sl w' 56 3 v 1 (rows pcells [(z, wk, wn)]) ∧ Below w.heap.size w w' from by
    obtain ⟨F, hF⟩ := h.tab
    have h1 := props_some hF (2 + p) _ HX12.out b1 rfl (by simp [withProps]) (fun y hy => by simp [withProps] at hy; rw [hy]; exact hwf) (by simp [withProps])
    rw [HKP.out] at h1
    refine h1.mono ?_
    rintro e w' ⟨v, rfl, h2, _, h3⟩
    refine ⟨v, rfl, ?_, h3⟩
    have h4 : Sl w' 56 3 v 1 (rows pcells (sortP [(z, wk, wn)])) := h2
    rw [sort_one] at h4
    exact h4)
  have HSAME := hide fun (w : World) (v1 v2 : Value) (h1 : Sl w 56 3 v1 1 (rows pcells [(z, wk, wn)])) (h2 : Rd w v2 3 1 (rows pcells [(z, wk, wn)])) => (show Calls Tryd.prog 30 #[v1, v2] w fun e w' => e = .returned (.bool true) ∧ ∃ q, w' = w.drewN q from by
    have h3 := same_props [(z, wk, wn)] [(z, wk, wn)] v1 v2 w h1.rd h2 (by simp) (by simp)
    rw [show decide ([(z, wk, wn)] = [(z, wk, wn)]) = true from decide_eq_true rfl] at h3
    exact h3)
  have HRD := hide fun (w : World) => (show Rd (w.alloc (.cells #[.int .i64 z, .int .i64 wk, .int .i64 wn] 56)) (.slice (some ⟨w.heap.size, 0, none⟩) 1 1) 3 1 (rows pcells [(z, wk, wn)]) from rd_elem w 56 3 [.int .i64 z, .int .i64 wk, .int .i64 wn] rfl)
  have HBK := hide (show Blk ((w15.alloc (.cells #[.int .i64 vk, .int .i64 vn] 44)).alloc (.cells #[.int .i64 z, .int .i64 wk, .int .i64 wn] 56)).drew (w15.heap.size + 1) 56 #[.int .i64 z, .int .i64 wk, .int .i64 wn] from by simpa using (Blk.new (w15.alloc (.cells #[.int .i64 vk, .int .i64 vn] 44)) 56 #[.int .i64 z, .int .i64 wk, .int .i64 wn]).drew)
  have HRDB := hide fun (w0 w' : World) (g : Nat) (hk : Blk w0 g 56 #[.int .i64 z, .int .i64 wk, .int .i64 wn]) (hb : Below w0.heap.size w0 w') => (show Rd w' (.slice (some ⟨g, 0, none⟩) 1 1) 3 1 (rows pcells [(z, wk, wn)]) from
    ⟨_, _, rfl, rfl, fun _ => ⟨g, 0, rfl, fun j u hu => by
      rw [(hk.below hb hk.lt).cell]
      have e : (rows pcells [(z, wk, wn)]) = [.int .i64 z, .int .i64 wk, .int .i64 wn] := rfl
      rw [e] at hu
      simpa using hu⟩⟩)
  clear hK hwf h15 k0 k1 k2 k3 HVV HX HY HX4 HY4 HL4 HX6 HY6 HX12 HY12 HKP HKQ HPQ HT HV0 HV1
  go_wp2_with fail
  go_region_held3 (fun w' => w'.cell? ⟨w9.heap.size, 0, none⟩ = some (.int .i64 vk) ∧ w'.cell? ⟨w9.heap.size, 1, none⟩ = some (.int .i64 vn) ∧ w'.cell? ⟨w10.heap.size, 0, none⟩ = some (.int .i64 wk) ∧ w'.cell? ⟨w10.heap.size, 1, none⟩ = some (.int .i64 wn) ∧ w'.cell? ⟨w14.heap.size, 0, none⟩ = some (.int .i64 vk) ∧ w'.cell? ⟨w14.heap.size, 1, none⟩ = some (.int .i64 vn) ∧ w'.cell? ⟨w15.heap.size, 0, none⟩ = some (.int .i64 vk) ∧ w'.cell? ⟨w15.heap.size, 1, none⟩ = some (.int .i64 vn) ∧ w'.cell? ⟨W.heap.size, 0, none⟩ = some (.int .i64 vk) ∧ w'.cell? ⟨W.heap.size, 1, none⟩ = some (.int .i64 vn) ∧ w'.cell? ⟨(W.heap.size + 1), 0, none⟩ = some (.int .i64 wk) ∧ w'.cell? ⟨(W.heap.size + 1), 1, none⟩ = some (.int .i64 wn) ∧ One w1 ta L12 R w')
    (first | exact HK.out | assumption | exact keepC (by assumption) (by assumption) | exact keepA _ (by assumption) | exact keepC (below_dn _ _) (by assumption))
    ((first
      | (go_at_call 31; refine Calls.mono (HPR.out _ (HONE.out _ (by assumption))) ?_; rintro r w' ⟨v', rfl, hs, hb⟩; have HSL := hide hs; obtain ⟨A', c', rfl, _⟩ := hs.form; clear hs)
      | (go_at_call 30; refine Calls.mono (HSAME.out _ _ _ (HSL.out.alloc _) (HRD.out _)) ?_; rintro r w'' ⟨rfl, qq, rfl⟩)
      | (go_at_call 30; refine Calls.mono (HSAME.out _ _ _ HSL.out (HRDB.out _ _ _ HBK.out hb)) ?_; rintro r w'' ⟨rfl, qq, rfl⟩)))
  all_goals
    have hH := HONE.out _ (by assumption)
    have HBEL := hide (HB0.out.trans ((HB1.out.trans (hH.bel.mono HB1.out.size)).mono HB0.out.size))
    clear hH
    go_wp2
    go_ret
    exact ⟨rfl, HBEL.out⟩

theorem cells_walk (a b key vk vn wk wn : Int) (W : World) (hT : Tabs W) :
    Calls Tryd.prog 7 #[.int .i64 a, .int .i64 b, .int .i64 key, .agg #[.int .i64 vk, .int .i64 vn], .agg #[.int .i64 wk, .int .i64 wn]] W fun e w' => e = .returned (.bool true) ∧ Below W.heap.size W w' := by
  by_cases hab : pickZ a 60 = pickZ b 60
  · exact cells_same a b key vk vn wk wn W hT hab
  · exact cells_two a b key vk vn wk wn W hT hab
end Go.Proofs.YtkhjdhoaephdkaaDoor

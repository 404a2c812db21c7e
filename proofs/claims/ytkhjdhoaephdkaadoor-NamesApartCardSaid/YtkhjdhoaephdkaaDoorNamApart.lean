/- Two tables side by side; the walk of NamesApart. No condition but the tables of utf8. -/
import Derived.Test.YtkhjdhoaephdkaaDoorNamCopy4
import Derived.Test.YtkhjdhoaephdkaaDoorNamFull
namespace Go.Proofs.YtkhjdhoaephdkaaDoor
open Go.RowKit

/-- Two tables made since W, and blocks beside them. -/
structure Two (W : World) (ta : Nat) (A : List Sym) (tc : Nat) (C : List Sym) (R : List (Nat × TypeId × Array Value)) (w : World) : Prop where
  tabs : ∃ F G, TableIs w ta A F ∧ TableIs w tc C G ∧ (∀ k, F k → ¬ G k) ∧ (∀ k, F k → W.heap.size ≤ k) ∧ (∀ k, G k → W.heap.size ≤ k) ∧ (∀ x ∈ R, ¬ F x.1 ∧ ¬ G x.1)
  kept : ∀ x ∈ R, Blk w x.1 x.2.1 x.2.2
  bel : Below W.heap.size W w

section
variable {W w w' : World} {ta tc : Nat} {A A' C C' : List Sym} {R : List (Nat × TypeId × Array Value)}
theorem Two.first (h : Two W ta A tc C R w) {P : Ending → World → Prop} {f : Nat} {args : Array Value} {A' : List Sym} (hc : ∀ F, TableIs w ta A F → Calls Tryd.prog f args w fun e w' => P e w' ∧ Left w ta A' F w') :
    Calls Tryd.prog f args w fun e w' => P e w' ∧ Two W ta A' tc C R w' := by
  obtain ⟨F, G, h1, h2, h3, h4, h5, h6⟩ := h.tabs
  refine (hc F h1).mono ?_
  rintro e w' ⟨hp, hl⟩
  have hs := h.bel.size
  refine ⟨hp, ⟨grow F w w', G, hl.1, h2.only hl.2 fun k hk hf => h3 k hf hk, fun k hk hg => ?_, fun k hk => ?_, h5, fun x hx => ⟨fun hk => ?_, (h6 x hx).2⟩⟩, fun x hx => (h.kept x hx).only hl.2 (h6 x hx).1, h.bel.trans (hl.2.below hs h4)⟩
  · rcases hk with hk | hk
    · exact h3 k hk hg
    · have := h2.bound k hg
      have := hk.1
      omega
  · rcases hk with hk | hk
    · exact h4 k hk
    · have := hk.1
      omega
  · rcases hk with hk | hk
    · exact (h6 x hx).1 hk
    · have := (h.kept x hx).lt
      have := hk.1
      omega
theorem Two.swap (h : Two W ta A tc C R w) : Two W tc C ta A R w := by
  obtain ⟨F, G, h1, h2, h3, h4, h5, h6⟩ := h.tabs
  exact ⟨⟨G, F, h2, h1, fun k hg hf => h3 k hf hg, h5, h4, fun x hx => (h6 x hx).symm⟩, h.kept, h.bel⟩
theorem Two.second (h : Two W ta A tc C R w) {P : Ending → World → Prop} {f : Nat} {args : Array Value} {C' : List Sym} (hc : ∀ F, TableIs w tc C F → Calls Tryd.prog f args w fun e w' => P e w' ∧ Left w tc C' F w') :
    Calls Tryd.prog f args w fun e w' => P e w' ∧ Two W ta A tc C' R w' :=
  (h.swap.first hc).mono fun _ _ ⟨hp, ht⟩ => ⟨hp, ht.swap⟩
theorem Two.below (h : Two W ta A tc C R w) (hb : Below w.heap.size w w') : Two W ta A tc C R w' := by
  obtain ⟨F, G, h1, h2, h3, h4, h5, h6⟩ := h.tabs
  exact ⟨⟨F, G, h1.below hb, h2.below hb, h3, h4, h5, h6⟩, fun x hx => (h.kept x hx).below hb (h.kept x hx).lt, h.bel.trans (hb.mono h.bel.size)⟩
theorem Two.box (h : Two W ta A tc C R w) (t : TypeId) (cs : Array Value) : Two W ta A tc C ((w.heap.size, t, cs) :: R) (w.alloc (.cells cs t)) := by
  have h' := h.below ((Below.refl w.heap.size w).alloc (Nat.le_refl _) (.cells cs t))
  obtain ⟨F, G, h1, h2, h3, h4, h5, h6⟩ := h.tabs
  have hb := (Below.refl w.heap.size w).alloc (Nat.le_refl _) (.cells cs t)
  refine ⟨⟨F, G, h1.below hb, h2.below hb, h3, h4, h5, fun x hx => ?_⟩, fun x hx => ?_, h'.bel⟩
  · rcases List.mem_cons.1 hx with rfl | hx
    · exact ⟨fun hk => Nat.lt_irrefl _ (h1.bound _ hk), fun hk => Nat.lt_irrefl _ (h2.bound _ hk)⟩
    · exact h6 x hx
  · rcases List.mem_cons.1 hx with rfl | hx
    · exact Blk.new w t cs
    · exact h'.kept x hx
theorem Two.fst (h : Two W ta A tc C R w) : ∃ F, TableIs w ta A F := by
  obtain ⟨F, G, h1, _⟩ := h.tabs
  exact ⟨F, h1⟩
theorem Two.snd (h : Two W ta A tc C R w) : ∃ F, TableIs w tc C F := by
  obtain ⟨F, G, _, h1, _⟩ := h.tabs
  exact ⟨G, h1⟩
end

/-! ### The plain law -/
theorem intern_len {L : List Sym} {s : ByteArray} : L.length ≤ (internM L s).2.2.length ∧ (internM L s).2.2.length ≤ L.length + 1 := by
  unfold internM
  repeat' split
  all_goals simp
theorem intern_at {L : List Sym} {s : ByteArray} {n : Nat} (hn : n < L.length) : (internM L s).2.2[n]? = L[n]? := by
  unfold internM
  repeat' split
  all_goals first | rfl | (rw [List.getElem?_append_left hn])
theorem find_lt {s : ByteArray} : ∀ (L : List Sym) (k n : Nat), findFrom k L s = some n → n < k + L.length
  | [], k, n, h => by simp [findFrom] at h
  | x :: L, k, n, h => by
    simp only [findFrom] at h
    split at h
    · cases h
      simp
    · have := find_lt L (k + 1) n h
      simp
      omega
/-- Interned once, found ever since. -/
theorem intern_found {L : List Sym} {s : ByteArray} (hL : L.length < 16384) (hc : chk s = 0) : ∃ n : Nat, (internM L s).1 = (n : Int) ∧ (internM L s).2.1 = 0 ∧ find (internM L s).2.2 s = some n := by
  unfold internM
  rw [if_pos hc]
  cases hf : find L s with
  | some n => exact ⟨n, rfl, rfl, hf⟩
  | none =>
    simp only
    rw [if_neg (by omega)]
    refine ⟨L.length, rfl, rfl, ?_⟩
    rw [find_snoc, hf]
    simp [(MapKept.bytes_beq s s).2 rfl]
theorem intern_keeps {L : List Sym} {s u : ByteArray} {n : Nat} (h : find L s = some n) : find (internM L u).2.2 s = some n := by
  unfold internM
  repeat' split
  all_goals first | exact h | (rw [find_snoc, h]; rfl)
theorem intern_again {L : List Sym} {s : ByteArray} {n : Nat} (hc : chk s = 0) (h : find L s = some n) : internM L s = ((n : Int), 0, L) := by
  unfold internM
  simp [hc, h]
theorem intern_bad {L : List Sym} {s : ByteArray} (hc : chk s ≠ 0) : internM L s = (0, chk s, L) := by
  unfold internM
  rw [if_neg hc]
theorem find_other {L : List Sym} {n : Nat} {x y : Sym} (h1 : y.name = x.name) (h2 : y.intd = x.intd) (hn : L[n]? = some x) (s : ByteArray) : find (L.set n y) s = find L s := find_set h1 h2 s L n 0 hn

theorem fixed_none {k : Nat} {x : Sym} (h : fixedSyms[k]? = some x) : x.pm = none ∧ x.props = [] := by
  have : x ∈ fixedSyms := List.mem_of_getElem? h
  simp only [fixedSyms, symsOf, List.mem_map] at this
  obtain ⟨s, _, rfl⟩ := this
  exact ⟨rfl, rfl⟩

section
variable {W w : World} {ta tc : Nat} {A C : List Sym} {R : List (Nat × TypeId × Array Value)}
theorem two_intern (h : Two W ta A tc C R w) (hT : Tabs W) (s : ByteArray) (hs : s.size * 8 ≤ 140737488355328) (hL : C.length ≤ 16384) :
    Calls Tryd.prog 12 #[.pointer (some ⟨tc, 0, none⟩), .string s] w fun r w' => r = .returned (.tuple #[.int .i64 (internM C s).1, .int .i64 (internM C s).2.1]) ∧ Two W ta A tc (internM C s).2.2 R w' :=
  h.second (P := fun r _ => r = .returned (.tuple #[.int .i64 (internM C s).1, .int .i64 (internM C s).2.1])) fun _ hF => intern_any hF (hT.below h.bel) s hs hL
end

set_option maxRecDepth 100000 in
set_option maxHeartbeats 4000000 in
theorem apart_walk (s u : ByteArray) (n vk vn wk wn : Int) (W : World) (hT : Tabs W) :
    Calls Tryd.prog 6 #[.string s, .string u, .int .i64 n, .agg #[.int .i64 vk, .int .i64 vn], .agg #[.int .i64 wk, .int .i64 wn]] W fun e w' => e = .returned (.bool true) ∧ Below W.heap.size W w' := by
  have hB0 : Below W.heap.size W ((W.alloc (.cells #[.int .i64 vk, .int .i64 vn] 44)).alloc (.cells #[.int .i64 wk, .int .i64 wn] 44)) := ((Below.refl _ _).alloc (Nat.le_refl _) _).alloc (by simp) _
  have v0 : Blk ((W.alloc (.cells #[.int .i64 vk, .int .i64 vn] 44)).alloc (.cells #[.int .i64 wk, .int .i64 wn] 44)) W.heap.size 44 #[.int .i64 vk, .int .i64 vn] := (Blk.new _ _ _).alloc _
  have v1 : Blk ((W.alloc (.cells #[.int .i64 vk, .int .i64 vn] 44)).alloc (.cells #[.int .i64 wk, .int .i64 wn] 44)) (W.heap.size + 1) 44 #[.int .i64 wk, .int .i64 wn] := by simpa using Blk.new (W.alloc (.cells #[.int .i64 vk, .int .i64 vn] 44)) 44 #[.int .i64 wk, .int .i64 wn]
  have HT := hide (hT.below hB0)
  have HB0 := hide hB0
  have HV0 := hide v0
  have HV1 := hide v1
  clear hT hB0 v0 v1
  go_enter Tryd.func6, Tryd.ntmps6
  go_wp2_with fail
  generalize (W.alloc (.cells #[.int .i64 vk, .int .i64 vn] 44)).alloc (.cells #[.int .i64 wk, .int .i64 wn] 44) = w0 at *
  refine (lives_any w0 HT.out).mono ?_
  rintro e w1 ⟨rfl, b1⟩
  by_cases h1 : 300 < s.size
  · have hz : decide ((300 : Int) < (s.size : Int)) = true := by simp; omega
    have HB := hide (HB0.out.trans (b1.mono HB0.out.size))
    clear b1
    go_wp2
    go_ret
    exact ⟨rfl, HB.out⟩
  have hz1 : decide ((300 : Int) < (s.size : Int)) = false := by simp; omega
  by_cases h2 : 300 < u.size
  · have hz : decide ((300 : Int) < (u.size : Int)) = true := by simp; omega
    have HB := hide (HB0.out.trans (b1.mono HB0.out.size))
    clear b1
    go_wp2
    go_ret
    exact ⟨rfl, HB.out⟩
  have hz2 : decide ((300 : Int) < (u.size : Int)) = false := by simp; omega
  have HS := hide (show s.size * 8 ≤ 140737488355328 by omega)
  have HU := hide (show u.size * 8 ≤ 140737488355328 by omega)
  have HB1 := hide b1
  clear b1 h1 h2
  go_wp2_with fail
  refine (new_any w1).mono ?_
  rintro e w2 ⟨ta, rfl, ht, hb2⟩
  have hS : Since w1 ta fixedSyms w2 := ⟨ht, hb2⟩
  clear ht hb2
  have HT1 := hide (HT.out.below HB1.out)
  go_wp2_with fail
  generalize hr : internM fixedSyms s = r at *
  obtain ⟨x, e, L1⟩ := r
  refine (since_intern hS HT1.out s HS.out (by rw [fixedSyms_len]; decide) hr).mono ?_
  rintro e' w3 ⟨rfl, hS3⟩
  clear hS
  have HR := hide hr
  clear hr
  obtain ⟨p, hp, hp2⟩ : ∃ p : Nat, pickZ n 60 = (p : Int) ∧ p < 60 := ⟨(pickZ n 60).toNat, by have := pickZ_ge (n := n) (k := 60) (by decide); omega, by have := pickZ_lt (n := n) (k := 60) (by decide); have := pickZ_ge (n := n) (k := 60) (by decide); omega⟩
  have hpk := pick_any n 60 w3 (by decide) (by decide)
  rw [hp] at hpk
  have HPK := hide hpk
  clear hp hpk
  have hk2 : (((2 + p : Nat)) : Int) = 2 + (p : Int) := by omega
  go_wp2_with fail
  refine (Calls.mono HPK.out) ?_
  rintro e' w4 ⟨rfl, rfl⟩
  clear HPK
  -- the symbol
  have hl1 : L1.length ≤ 63 ∧ 62 ≤ L1.length := by
    have := intern_len (L := fixedSyms) (s := s)
    rw [HR.out, fixedSyms_len] at this
    exact ⟨this.2, this.1⟩
  obtain ⟨X, hX⟩ : ∃ X, fixedSyms[2 + p]? = some X := ⟨_, List.getElem?_eq_getElem (by rw [fixedSyms_len]; omega)⟩
  have hX1 : L1[2 + p]? = some X := by
    have := intern_at (L := fixedSyms) (s := s) (n := 2 + p) (by rw [fixedSyms_len]; omega)
    rw [HR.out] at this
    rw [← hX]
    exact this
  obtain ⟨hXp, hXq⟩ := fixed_none hX
  -- SetFunc, SetProp on the table
  have HF1 := hide (setfunc_ok hS3.1 (2 + p) X hX1 (by omega) vk vn)
  rw [hk2] at HF1
  have HVV := hide fun (w' : World) (hb : Below w1.heap.size w1 w') => (show w'.cell? ⟨W.heap.size, 0, none⟩ = some (.int .i64 vk) ∧ w'.cell? ⟨W.heap.size, 1, none⟩ = some (.int .i64 vn) ∧ w'.cell? ⟨W.heap.size + 1, 0, none⟩ = some (.int .i64 wk) ∧ w'.cell? ⟨W.heap.size + 1, 1, none⟩ = some (.int .i64 wn) from by
    have hs1 := HB1.out.size
    have l0 := HV0.out.lt
    have l1 := HV1.out.lt
    have q0 := (HV0.out.below HB1.out l0).below hb (by omega)
    have q1 := (HV1.out.below HB1.out l1).below hb (by omega)
    exact ⟨q0.cell 0, q0.cell 1, q1.cell 0, q1.cell 1⟩)
  obtain ⟨k0, k1, k2, k3⟩ := HVV.out w3 hS3.2
  have HX1 := hide hX1
  have HS3 := hide hS3
  have HL1 := hide hl1
  have HXP := hide hXp
  have HXQ := hide hXq
  have HK2 := hide hk2
  clear hX1 hX hS3 hl1 hXp hXq hk2
  go_wp2_with fail
  refine (Calls.mono HF1.out) ?_
  rintro e' w4 ⟨rfl, hl4⟩
  have hS4 := HS3.out.next hl4
  clear hl4 HF1 k0 k1 k2 k3 HS3
  obtain ⟨k0, k1, k2, k3⟩ := HVV.out w4 hS4.2
  have hlt : 2 + p < L1.length := by have := HL1.out; omega
  have HP1 := hide (setprop_new hS4.1 (2 + p) (withFn X vk vn true) (by simp [hlt]) HXP.out 5 ⟨by decide, by have := HL1.out; simp; omega⟩ vk vn)
  rw [HK2.out] at HP1
  have HS4 := hide hS4
  clear hS4
  have HLT := hide hlt
  clear hlt
  go_wp2_with fail
  refine (Calls.mono HP1.out) ?_
  rintro e' w5 ⟨rfl, b, hl5⟩
  have hS5 := HS4.out.next hl5
  clear hl5 HP1 HS4 k0 k1 k2 k3
  obtain ⟨L3, hL3⟩ : ∃ L3, L3 = (L1.set (2 + p) (withFn X vk vn true)).set (2 + p) (withProps (withFn X vk vn true) b [(5, vk, vn)]) := ⟨_, rfl⟩
  rw [← hL3] at hS5
  have hlen3 : L3.length = L1.length := by rw [hL3]; simp
  have hat3 : L3[2 + p]? = some (withProps (withFn X vk vn true) b [(5, vk, vn)]) := by rw [hL3]; simp [HLT.out]
  have hfind3 : ∀ s', find L3 s' = find L1 s' := fun s' => by
    have hx2 : (L1.set (2 + p) (withFn X vk vn true))[2 + p]? = some (withFn X vk vn true) := by simp [HLT.out]
    have h1 := find_other (x := withFn X vk vn true) (y := withProps (withFn X vk vn true) b [(5, vk, vn)]) rfl rfl hx2 s'
    have h2 := find_other (x := X) (y := withFn X vk vn true) rfl rfl HX1.out s'
    rw [hL3, h1, h2]
  clear hL3
  have HC := hide (copy_any hS5.1 (by rw [hlen3]; have := HL1.out; omega) (by rw [hlen3]; have := HL1.out; omega))
  have HS5 := hide hS5
  clear hS5
  have HLEN3 := hide hlen3
  have HAT3 := hide hat3
  have HFIND3 := hide hfind3
  clear hlen3 hat3 hfind3
  go_wp2_with fail
  refine (Calls.mono HC.out) ?_
  rintro e' w6 ⟨tc, D, rfl, htc, hst, hb6⟩
  have hT6 : Two w1 ta L3 tc D [] w6 := by
    have h5 := HS5.out
    refine ⟨⟨_, _, h5.1.below hb6, htc, fun k hk hg => ?_, fun k hk => hk.1, fun k hk => ?_, fun x hx => by simp at hx⟩, fun x hx => by simp at hx, h5.2.trans (hb6.mono h5.2.size)⟩
    · have := hk.2
      have := hg.1
      omega
    · have := hk.1
      have := h5.2.size
      omega
  obtain ⟨Y, hY, hYs⟩ := at_twin hst HAT3.out
  obtain ⟨b', hYb⟩ : ∃ b', Y.pm = some b' := by
    rcases htc.props Y (List.mem_of_getElem? hY) with ⟨_, hq⟩ | ⟨b', hq, _⟩
    · rw [strip_props hYs] at hq
      cases hq
    · exact ⟨b', hq⟩
  have hYe : Y = (withProps (withFn X vk vn true) b [(5, vk, vn)]).withPm (some b') := by
    have e1 : Y = Y.strip.withPm Y.pm := rfl
    rw [e1, hYs, hYb]
    rfl
  have hDlen : D.length = L1.length := by rw [stripped_len hst, HLEN3.out]
  have hfindD : ∀ s', find D s' = find L1 s' := fun s' => by rw [find_twin hst, HFIND3.out]
  clear htc hst hb6 hYs HC HS5
  have HT6 := hide hT6
  have hU2 := two_intern hT6 HT1.out u HU.out (by rw [hDlen]; have := HL1.out; omega)
  have hD4at : (internM D u).2.2[2 + p]? = some Y := by
    rw [intern_at (by rw [hDlen]; exact HLT.out)]
    exact hY
  have hD4len := (intern_len (L := D) (s := u)).2
  rw [hDlen] at hD4len
  obtain ⟨⟨y, f, D4⟩, hD4⟩ : ∃ r, internM D u = r := ⟨_, rfl⟩
  rw [hD4] at hU2 hD4at hD4len
  have HU2 := hide hU2
  have HD4 := hide hD4
  have HD4A := hide (show D4[2 + p]? = some Y from hD4at)
  have HD4L := hide (show D4.length ≤ L1.length + 1 from hD4len)
  clear hU2 hD4 hD4at hD4len
  clear hT6
  have HY := hide hY
  have HYB := hide hYb
  have HYE := hide hYe
  have HDL := hide hDlen
  have HFD := hide hfindD
  clear hY hYb hYe hDlen hfindD
  go_wp2_with fail
  refine (Calls.mono HU2.out) ?_
  rintro e' w7 ⟨rfl, hT7⟩
  clear HU2 HT6
  obtain ⟨k0, k1, k2, k3⟩ := HVV.out w7 hT7.bel
  have hlt4 : 2 + p < D4.length := (List.getElem?_eq_some_iff.1 HD4A.out).1
  have hf8 := hT7.second (P := fun r _ => r = .returned (.int .i64 0)) fun _ hF => setfunc_ok hF (2 + p) Y HD4A.out (by omega) wk wn
  rw [HK2.out] at hf8
  have HF8 := hide hf8
  have HLT4 := hide hlt4
  clear hf8 hT7 hlt4
  go_wp2_with fail
  refine (Calls.mono HF8.out) ?_
  rintro e' w8 ⟨rfl, hT8⟩
  clear HF8 k0 k1 k2 k3
  obtain ⟨k0, k1, k2, k3⟩ := HVV.out w8 hT8.bel
  have hp9 := hT8.second (P := fun r _ => r = .returned (.int .i64 0)) fun _ hF => setprop_old hF (2 + p) (withFn Y wk wn true) (by simp [HLT4.out]) b' HYB.out 5 ⟨by decide, by have := HLT4.out; have := HL1.out; have := HLEN3.out; have := HLT.out; have h5 := (intern_len (L := D) (s := u)).1; rw [HD4.out, HDL.out] at h5; simp at h5 ⊢; omega⟩ wk wn
  rw [HK2.out, show pput (withFn Y wk wn true).props 5 wk wn = [(5, wk, wn)] by rw [HYE.out]; simp [withFn, Sym.withPm, withProps, pput]] at hp9
  have HP9 := hide hp9
  clear hp9 hT8
  go_wp2_with fail
  refine (Calls.mono HP9.out) ?_
  rintro e' w9 ⟨rfl, hT9⟩
  clear HP9 k0 k1 k2 k3
  obtain ⟨D6, hD6⟩ : ∃ D6, D6 = (D4.set (2 + p) (withFn Y wk wn true)).set (2 + p) (withProps (withFn Y wk wn true) b' [(5, wk, wn)]) := ⟨_, rfl⟩
  rw [← hD6] at hT9
  have hat6 : D6[2 + p]? = some (withProps (withFn Y wk wn true) b' [(5, wk, wn)]) := by rw [hD6]; simp [HLT4.out]
  have hlen6 : D6.length = D4.length := by rw [hD6]; simp
  have hfind6 : ∀ s', find D6 s' = find D4 s' := fun s' => by
    have hx2 : (D4.set (2 + p) (withFn Y wk wn true))[2 + p]? = some (withFn Y wk wn true) := by simp [HLT4.out]
    have h1 := find_other (x := withFn Y wk wn true) (y := withProps (withFn Y wk wn true) b' [(5, wk, wn)]) rfl rfl hx2 s'
    have h2 := find_other (x := Y) (y := withFn Y wk wn true) rfl rfl HD4A.out s'
    rw [hD6, h1, h2]
  have HAT6 := hide hat6
  have HLEN6 := hide hlen6
  have HFIND6 := hide hfind6
  clear hD6 hat6 hlen6 hfind6
  obtain ⟨F, hF⟩ := hT9.fst
  have hfn : Calls Tryd.prog 27 #[.pointer (some ⟨ta, 0, none⟩), .int .i64 ((2 + p : Nat) : Int)] w9 fun e w' => e = .returned (.tuple #[.agg #[.int .i64 vk, .int .i64 vn], .bool true]) ∧ Below (World.heap w9).size w9 w' := func_any hF (2 + p) _ HAT3.out
  rw [HK2.out] at hfn
  have HFN := hide hfn
  have HT9 := hide hT9
  clear hF hfn hT9
  go_wp2_with fail
  refine (Calls.mono HFN.out) ?_
  rintro e' w10 ⟨rfl, hb10⟩
  have hT10 := (HT9.out.below hb10).box 44 #[.int .i64 vk, .int .i64 vn]
  clear hb10 HFN HT9
  obtain ⟨F, hF⟩ := hT10.snd
  have hfn : Calls Tryd.prog 27 #[.pointer (some ⟨tc, 0, none⟩), .int .i64 ((2 + p : Nat) : Int)] (w10.alloc (.cells #[.int .i64 vk, .int .i64 vn] 44)) fun e w' => e = .returned (.tuple #[.agg #[.int .i64 wk, .int .i64 wn], .bool true]) ∧ Below (World.heap (w10.alloc (.cells #[.int .i64 vk, .int .i64 vn] 44))).size (w10.alloc (.cells #[.int .i64 vk, .int .i64 vn] 44)) w' := func_any hF (2 + p) _ HAT6.out
  rw [HK2.out] at hfn
  have HFN := hide hfn
  have HT10 := hide hT10
  clear hF hfn hT10
  go_wp2_with fail
  refine (Calls.mono HFN.out) ?_
  rintro e' w11 ⟨rfl, hb11⟩
  have hT11 := (HT10.out.below hb11).box 44 #[.int .i64 wk, .int .i64 wn]
  clear hb11 HFN HT10
  obtain ⟨F, hF⟩ := hT11.fst
  have hfn := prop_some hF (2 + p) _ HAT3.out b rfl 5 vk vn (by simp [pget, withProps])
  rw [HK2.out] at hfn
  have HFN := hide hfn
  have HT11 := hide hT11
  clear hF hfn hT11
  go_wp2_with fail
  refine (Calls.mono HFN.out) ?_
  rintro e' w12 ⟨rfl, hb12⟩
  have hT12 := (HT11.out.below hb12).box 44 #[.int .i64 vk, .int .i64 vn]
  clear hb12 HFN HT11
  obtain ⟨F, hF⟩ := hT12.snd
  have hfn := prop_some hF (2 + p) _ HAT6.out b' rfl 5 wk wn (by simp [pget, withProps])
  rw [HK2.out] at hfn
  have HFN := hide hfn
  have HT12 := hide hT12
  clear hF hfn hT12
  go_wp2_with fail
  refine (Calls.mono HFN.out) ?_
  rintro e' w13 ⟨rfl, hb13⟩
  have hT13 := (HT12.out.below hb13).box 44 #[.int .i64 wk, .int .i64 wn]
  clear hb13 HFN HT12
  have hlen62 : D6.length ≤ 16384 := by rw [HLEN6.out]; have := HD4L.out; have := HL1.out; omega
  have hU14 := two_intern hT13 HT1.out s HS.out hlen62
  obtain ⟨⟨z, g, D7⟩, hD7⟩ : ∃ r, internM D6 s = r := ⟨_, rfl⟩
  rw [hD7] at hU14
  have HU14 := hide hU14
  have HD7 := hide hD7
  clear hU14 hD7 hT13 hlen62
  go_wp2_with fail
  refine (Calls.mono HU14.out) ?_
  rintro e' w14 ⟨rfl, hT14⟩
  clear HU14
  obtain ⟨F, hF⟩ := hT14.fst
  have HFI := hide (find_any hF u)
  have HMA := hide (many_any hF)
  have HT14 := hide hT14
  clear hF hT14
  go_wp2_with fail
  refine (Calls.mono HFI.out) ?_
  rintro e' w15 ⟨rfl, rfl⟩
  clear HFI
  have P1 : e = 0 → g = 0 ∧ z = x := fun he => by
    have hc : chk s = 0 := by
      apply Classical.byContradiction
      intro hc
      have h1 := HR.out
      rw [intern_bad hc] at h1
      injection h1 with _ h1
      injection h1 with h1 _
      omega
    obtain ⟨i, h1, h2, h3⟩ := intern_found (L := fixedSyms) (s := s) (by rw [fixedSyms_len]; decide) hc
    rw [HR.out] at h1 h2 h3
    have h4 : find D s = some i := by rw [HFD.out]; exact h3
    have h5 := intern_keeps (u := u) h4
    rw [HD4.out] at h5
    have h6 : find D6 s = some i := by rw [HFIND6.out]; exact h5
    have h7 := HD7.out
    rw [intern_again hc h6] at h7
    injection h7 with h8 h7
    injection h7 with h7 _
    exact ⟨h7.symm, by rw [← h8]; exact h1.symm⟩
  have P2 : ∀ m, find L3 u = some m → f = 0 → y = (m : Int) ∧ m < L3.length := fun m hm hf => by
    have hc : chk u = 0 := by
      apply Classical.byContradiction
      intro hc
      have h1 := HD4.out
      rw [intern_bad hc] at h1
      injection h1 with _ h1
      injection h1 with h1 _
      omega
    have h4 : find D u = some m := by rw [HFD.out, ← HFIND3.out]; exact hm
    have h7 := HD4.out
    rw [intern_again hc h4] at h7
    injection h7 with h8 h7
    have := find_lt L3 0 m hm
    exact ⟨h8.symm, by omega⟩
  obtain ⟨k0, k1, k2, k3⟩ := HVV.out w14 HT14.out.bel
  have r1 := HT14.out.kept _ (List.mem_cons_self ..)
  have r2 := HT14.out.kept _ (List.mem_cons_of_mem _ (List.mem_cons_self ..))
  have r3 := HT14.out.kept _ (List.mem_cons_of_mem _ (List.mem_cons_of_mem _ (List.mem_cons_self ..)))
  have r4 := HT14.out.kept _ (List.mem_cons_of_mem _ (List.mem_cons_of_mem _ (List.mem_cons_of_mem _ (List.mem_cons_self ..))))
  have a10 := r1.cell 0
  have a11 := r1.cell 1
  have a20 := r2.cell 0
  have a21 := r2.cell 1
  have a30 := r3.cell 0
  have a31 := r3.cell 1
  have a40 := r4.cell 0
  have a41 := r4.cell 1
  have HBEL := hide (HB0.out.trans ((HB1.out.trans (HT14.out.bel.mono HB1.out.size)).mono HB0.out.size))
  clear r1 r2 r3 r4 HT14 HVV HR HD4 HD7 HFD HFIND3 HFIND6 HAT3 HAT6 HY HYE HYB HX1 HXP HXQ HLT HLT4 HL1 HLEN3 HLEN6 HDL HD4A HD4L HK2 HS HU HT HT1 HV0 HV1 HB0 HB1
  by_cases he : e = 0
  · obtain ⟨rfl, rfl⟩ := P1 he
    subst he
    clear P1
    cases hfi : find L3 u with
    | none =>
      clear P2 hfi
      go_wp2_with (go_at_call 13; refine (Calls.mono HMA.out) ?_; rintro e' w16 ⟨rfl, rfl⟩)
      all_goals (go_ret; exact ⟨rfl, HBEL.out⟩)
    | some m =>
      by_cases hf : f = 0
      · obtain ⟨rfl, hm⟩ := P2 m hfi hf
        subst hf
        have hz : decide (L3.length ≤ m) = false := by simp; omega
        have HM := hide hm
        clear P2 hfi hm
        go_wp2_with (go_at_call 13; refine (Calls.mono HMA.out) ?_; rintro e' w16 ⟨rfl, rfl⟩)
        all_goals (go_ret; exact ⟨rfl, HBEL.out⟩)
      · have hz : decide (f = 0) = false := by simpa using hf
        clear P2 hfi
        go_wp2_with (go_at_call 13; refine (Calls.mono HMA.out) ?_; rintro e' w16 ⟨rfl, rfl⟩)
        all_goals (go_ret; exact ⟨rfl, HBEL.out⟩)
  · have hz : decide (e = 0) = false := by simpa using he
    clear P1
    cases hfi : find L3 u with
    | none =>
      clear P2 hfi
      go_wp2_with (go_at_call 13; refine (Calls.mono HMA.out) ?_; rintro e' w16 ⟨rfl, rfl⟩)
      all_goals (go_ret; exact ⟨rfl, HBEL.out⟩)
    | some m =>
      by_cases hf : f = 0
      · obtain ⟨rfl, hm⟩ := P2 m hfi hf
        subst hf
        have hz2 : decide (L3.length ≤ m) = false := by simp; omega
        have HM := hide hm
        clear P2 hfi hm
        go_wp2_with (go_at_call 13; refine (Calls.mono HMA.out) ?_; rintro e' w16 ⟨rfl, rfl⟩)
        all_goals (go_ret; exact ⟨rfl, HBEL.out⟩)
      · have hz2 : decide (f = 0) = false := by simpa using hf
        clear P2 hfi
        go_wp2_with (go_at_call 13; refine (Calls.mono HMA.out) ?_; rintro e' w16 ⟨rfl, rfl⟩)
        all_goals (go_ret; exact ⟨rfl, HBEL.out⟩)
end Go.Proofs.YtkhjdhoaephdkaaDoor

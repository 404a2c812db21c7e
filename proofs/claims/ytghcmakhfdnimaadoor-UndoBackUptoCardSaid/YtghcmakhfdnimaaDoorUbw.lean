/- The reference among a call's own blocks; New, Insert, Delete. No condition but those written. -/
import Derived.Test.YtghcmakhfdnimaaDoorUbv
namespace Go.Proofs.YtghcmakhfdnimaaDoor
open Go.RowKit

/-- The reference's blocks. -/
abbrev rHeap (rb : Nat) (v : Value) (L : List Nat) : Heap := (rb, .cells 75 #[v]) :: rowOf 3 1 v L.length (ints L)
structure RtAt (W w : World) (rb : Nat) (v : Value) (L : List Nat) (R : Heap) : Prop where
  own : Own W w (rHeap rb v L ++ R)
  ok : RowOk v L.length
section
variable {W w w' : World} {rb : Nat} {v : Value} {L : List Nat} {R : Heap}
theorem RtAt.below (h : RtAt W w rb v L R) (hb : Below w.heap.size w w') : RtAt W w' rb v L R := ⟨h.own.below hb, h.ok⟩
theorem RtAt.blk (h : RtAt W w rb v L R) : Blk w rb 75 #[v] := h.own.blk (List.mem_cons_self ..)
theorem RtAt.sl (h : RtAt W w rb v L R) : Sl w 3 1 v L.length (ints L) := h.own.slOf (fun x hx => List.mem_cons_of_mem _ (List.mem_append_left _ hx)) (by rw [ints_size, Nat.mul_one]) h.ok
theorem RtAt.rest (h : RtAt W w rb v L R) : Own W w R := h.own.sub ((List.sublist_append_right _ _).cons _)
/-- The characters are laid anew. -/
theorem RtAt.set {v' : Value} {L' : List Nat} (h : RtAt W w rb v L R) (hb : Below w.heap.size w w') (hs : Sl w' 3 1 v' L'.length (ints L')) (hf : ∀ g, v'.ownBlock = some g → w.heap.size ≤ g) : RtAt W (w'.setCell ⟨rb, 0, none⟩ v') rb v' L' R := by
  have h1 := h.own.joinRow hb hs hf
  have h2 := (h1.perm (List.perm_middle (a := (rb, Ast.cells 75 #[v])))).setCell 0 v'
  refine ⟨h2.sub ?_, hs.rowOk⟩
  exact ((List.Sublist.refl _).append (List.sublist_append_right _ _)).cons_cons _
theorem RtAt.setn {v' : Value} {L' : List Nat} {N : Nat} (h : RtAt W w rb v L R) (hN : N = L'.length) (hb : Below w.heap.size w w') (hs : Sl w' 3 1 v' N (ints L')) (hf : ∀ g, v'.ownBlock = some g → w.heap.size ≤ g) : RtAt W (w'.setCell ⟨rb, 0, none⟩ v') rb v' L' R := by
  subst hN
  exact h.set hb hs hf
theorem Sl.cases {w : World} {T : TypeId} {k n : Nat} {v : Value} {xs : List Value} (h : Sl w T k v n xs) : (v = .slice none 0 0 ∧ n = 0) ∨ ∃ g off c, v = .slice (some ⟨g, off, none⟩) n c ∧ n ≤ c ∧ c ≤ maxLen := by
  rcases h.2 with h0 | ⟨g, off, cap, cs, rfl, _, h1, h2, _⟩
  · exact .inl h0
  · exact .inr ⟨g, off, cap, rfl, h1, h2⟩
/-- What is wanted to read it. -/
theorem RtAt.open_ (h : RtAt W w rb v L R) (h6 : L.length ≤ 65536) : ∃ A c, v = .slice A L.length c ∧ RtIn w rb A L.length c L ∧ L.length ≤ c ∧ c ≤ maxLen ∧ ((A = none ∧ c = 0) ∨ ∃ g off, A = some ⟨g, off, none⟩) := by
  have hs := h.sl
  rcases hs.cases with ⟨rfl, hn⟩ | ⟨g, off, c, rfl, h1, h2⟩
  · have hr := hs.rd
    rw [hn] at hr ⊢
    exact ⟨none, 0, rfl, ⟨by rw [h.blk.cell]; rfl, hr, by omega⟩, Nat.le_refl _, by unfold maxLen; omega, .inl ⟨rfl, rfl⟩⟩
  · exact ⟨some ⟨g, off, none⟩, c, rfl, ⟨by rw [h.blk.cell]; rfl, hs.rd, h6⟩, h1, h2, .inr ⟨g, off, rfl⟩⟩
theorem chars_no {s : ByteArray} (hv : validS s = false) : charsL s.data.toList = none := by
  unfold validS at hv
  cases h : charsL s.data.toList with
  | none => rfl
  | some l => rw [h] at hv; cases hv
theorem list_no {s : ByteArray} (w : World) (hs : s.size * 8 ≤ 140737488355328) (hv : validS s = false) : Calls Tryd.prog 41 #[.string s] w fun e w' => e = .returned (.tuple #[.slice none 0 0, .int .i64 5]) ∧ Below w.heap.size w w' := by
  refine (list_any s w hs).mono ?_
  rintro e w' ⟨hb, hm⟩
  rw [chars_no hv] at hm
  exact ⟨hm, hb⟩
theorem list_yes {s : ByteArray} (w : World) (hs : s.size * 8 ≤ 140737488355328) (hv : validS s = true) : Calls Tryd.prog 41 #[.string s] w fun e w' => ∃ B d, e = .returned (.tuple #[.slice B (charsOf s).length d, .int .i64 0]) ∧ Sl w' 3 1 (.slice B (charsOf s).length d) (charsOf s).length (ints (charsOf s)) ∧ (∀ g, (Value.slice B (charsOf s).length d).ownBlock = some g → w.heap.size ≤ g) ∧ Below w.heap.size w w' := by
  refine (list_any s w hs).mono ?_
  rintro e w' ⟨hb, hm⟩
  rw [charsOf_eq hv] at hm
  obtain ⟨v, rfl, hsl, hf⟩ := hm
  obtain ⟨B, d, rfl, _⟩ := hsl.form
  exact ⟨B, d, rfl, hsl, hf, hb⟩
set_option maxRecDepth 100000 in
set_option maxHeartbeats 4000000 in
theorem rnew_any (h : Own W w R) (s : ByteArray) (hs : s.size ≤ 300) : Calls Tryd.prog 10 #[.string s] w fun e w' => (validS s = false ∧ e = .returned (.tuple #[.pointer none, .int .i64 5]) ∧ Own W w' R) ∨ (validS s = true ∧ ∃ rb v, e = .returned (.tuple #[.pointer (some ⟨rb, 0, none⟩), .int .i64 0]) ∧ RtAt W w' rb v (charsOf s) R) := by
  have H := hide h
  cases hv : validS s with
  | false =>
    have HL := hide (list_no w (by omega) hv)
    clear h hv
    go_enter Tryd.func10, Tryd.ntmps10
    go_wp2_with fail
    refine Calls.mono HL.out ?_
    rintro r w2 ⟨rfl, hb⟩
    have HB := hide hb
    clear hb
    go_wp2
    go_ret2
    exact .inl ⟨by trivial, rfl, H.out.below HB.out⟩
  | true =>
    have HL := hide (list_yes w (by omega) hv)
    have hm3 : (charsOf s).length ≤ 300 := by rw [← lenS_eq]; have := lenS_le s; omega
    obtain ⟨X, hX⟩ : ∃ X, X = charsOf s := ⟨_, rfl⟩
    rw [← hX] at HL hm3 ⊢
    obtain ⟨m, hm⟩ : ∃ m, m = X.length := ⟨_, rfl⟩
    rw [← hm] at HL hm3
    have HM := hide hm
    have y1 : decide (65536 < m) = false := decide_eq_false (by omega)
    have y2 : decide ((65536 : Int) < (m : Int)) = false := decide_eq_false (by omega)
    clear h hX hm hv
    go_enter Tryd.func10, Tryd.ntmps10
    go_wp2_with fail
    refine Calls.mono HL.out ?_
    rintro r w2 ⟨B, d, rfl, hsl, hf, hb⟩
    have HR := hide (show RtAt W (w2.alloc (.cells #[.slice B m d] 75)) w2.heap.size (.slice B m d) X R from by
      rw [HM.out] at hsl ⊢
      rw [HM.out] at hf
      exact ⟨(H.out.joinRow hb hsl hf).newCells 75 #[.slice B X.length d], hsl.rowOk⟩)
    clear hsl hf hb
    go_wp2
    go_ret2
    exact .inr ⟨by trivial, _, _, rfl, HR.out⟩
theorem fin_ins {L X : List Nat} {k n m : Nat} (hl : L.length = n) (hm : X.length = m) (hk : k ≤ n) {w : World} {v : Value} (h : Sl w 3 1 v (k + m + (n - k)) (ints (L.take k) ++ ints X ++ ints (L.drop k))) : Sl w 3 1 v (L.take k ++ X ++ L.drop k).length (ints (L.take k ++ X ++ L.drop k)) := by
  have e1 : (L.take k ++ X ++ L.drop k).length = k + m + (n - k) := by simp only [List.length_append, List.length_take, List.length_drop]; omega
  rw [e1, ints_append, ints_append]
  exact h
theorem fin_del {L : List Nat} {i j n : Nat} (hl : L.length = n) (hi : i ≤ j) (hj : j ≤ n) {w : World} {v : Value} (h : Sl w 3 1 v (i + (n - j)) (ints (L.take i) ++ ints (L.drop j))) : Sl w 3 1 v (L.take i ++ L.drop j).length (ints (L.take i ++ L.drop j)) := by
  have e1 : (L.take i ++ L.drop j).length = i + (n - j) := by simp only [List.length_append, List.length_take, List.length_drop]; omega
  rw [e1, ints_append]
  exact h
theorem rd_take {w : World} {g off n c k : Nat} {L : List Nat} (h : Rd w (.slice (some ⟨g, off, none⟩) n c) 1 n (ints L)) (hk : k ≤ n) : Rd w (.slice (some ⟨g, off, none⟩) k c) 1 k (ints (L.take k)) := by
  have h1 := h.front hk c
  rw [Nat.mul_one, ← ints_take] at h1
  exact h1
theorem rd_drop {w : World} {g off n c k : Nat} {L : List Nat} (h : Rd w (.slice (some ⟨g, off, none⟩) n c) 1 n (ints L)) (hk : k ≤ n) (hnc : n ≤ c) : Rd w (.slice (if c = k then some ⟨g, off, none⟩ else some ⟨g, off + k, none⟩) (n - k) (c - k)) 1 (n - k) (ints (L.drop k)) := by
  have h1 := h.back_if hk hnc (c - k)
  rw [Nat.mul_one, ← ints_drop] at h1
  exact h1
theorem rd_take0 {w : World} {L : List Nat} : Rd w (.slice none 0 0) 1 0 (ints (L.take 0)) := by
  rw [List.take_zero]
  exact rd_zero w none
theorem rd_drop0 {w : World} {L : List Nat} (h : L.length = 0) : Rd w (.slice none 0 0) 1 0 (ints (L.drop 0)) := by
  rw [List.eq_nil_of_length_eq_zero h]
  exact rd_zero w none
set_option maxRecDepth 100000 in
set_option maxHeartbeats 16000000 in
theorem rins_any (h : RtAt W w rb v L R) (h6 : L.length ≤ 65536) (x : Int) (s : ByteArray) (hs : s.size ≤ 6000) : Calls Tryd.prog 44 #[.pointer (some ⟨rb, 0, none⟩), .int .i64 x, .string s] w fun e w' => e = .returned (.int .i64 (insErr L x s)) ∧ ∃ v', RtAt W w' rb v' (insL L x s) R := by
  obtain ⟨A, c, hv, hin, hnc, hc, hA⟩ := h.open_ h6
  obtain ⟨n, hn⟩ : ∃ n, n = L.length := ⟨_, rfl⟩
  rw [← hn] at hv hin hnc h6
  subst hv
  have c0 := hin.c0
  have H := hide h
  have HL := hide hn.symm
  have HI := hide hin
  have hw : IntKind.i64.wrap ((n : Int) + 1) = (n : Int) + 1 := IntWalk.i64_in _ (by omega)
  have HBAD := hide (fun (k : Int) (h1 : insErr L x s = k) (h2 : k ≠ 0) => (show insL L x s = L by
    unfold insL
    rw [h1, if_neg h2]))
  by_cases h1 : x < 1
  · have z1 : decide (x < 1) = true := by simpa using h1
    have HE := hide (show insErr L x s = 3 by unfold insErr; rw [if_pos (.inl h1)])
    clear h hin hn h1 hA
    go_enter Tryd.func44, Tryd.ntmps44
    go_wp2
    go_ret
    exact ⟨by rw [HE.out]; rfl, _, by rw [HBAD.out _ HE.out (by decide)]; exact H.out⟩
  have z1 : decide (x < 1) = false := by simpa using h1
  by_cases h2 : (n : Int) + 1 < x
  · have z2 : decide ((n : Int) + 1 < x) = true := by simpa using h2
    have HE := hide (show insErr L x s = 3 by unfold insErr; rw [if_pos (.inr (by rw [← hn]; exact h2))])
    clear h hin hn h1 h2 hA
    go_enter Tryd.func44, Tryd.ntmps44
    go_wp2
    go_ret
    exact ⟨by rw [HE.out]; rfl, _, by rw [HBAD.out _ HE.out (by decide)]; exact H.out⟩
  have z2 : decide ((n : Int) + 1 < x) = false := by simpa using h2
  cases hvs : validS s with
  | false =>
    have HE := hide (show insErr L x s = 5 by unfold insErr; rw [if_neg (by rw [← hn]; omega), if_pos hvs])
    have HLS := hide (list_no w (by omega) hvs)
    clear h hin hn h1 h2 hA hvs
    go_enter Tryd.func44, Tryd.ntmps44
    go_wp2_with fail
    refine Calls.mono HLS.out ?_
    rintro r w2 ⟨rfl, hb⟩
    have HB := hide hb
    clear hb
    go_wp2
    go_ret
    exact ⟨by rw [HE.out]; rfl, _, by rw [HBAD.out _ HE.out (by decide)]; exact H.out.below HB.out⟩
  | true =>
    have HLS := hide (list_yes w (by omega) hvs)
    have hm3 : (charsOf s).length ≤ 6000 := by rw [← lenS_eq]; have := lenS_le s; omega
    have HERR := hide (show insErr L x s = if 65536 < L.length + (charsOf s).length then 4 else 0 by unfold insErr; rw [if_neg (by rw [← hn]; omega), if_neg (by rw [hvs]; decide), lenS_eq])
    have HINS := hide (fun h0 : insErr L x s = 0 => show insL L x s = L.take (x - 1).toNat ++ charsOf s ++ L.drop (x - 1).toNat by unfold insL; rw [if_pos h0])
    obtain ⟨k, rfl⟩ : ∃ k : Nat, x = (k : Int) + 1 := ⟨(x - 1).toNat, by omega⟩
    rw [show ((k : Int) + 1 - 1).toNat = k by omega] at HINS
    obtain ⟨X, hX⟩ : ∃ X, X = charsOf s := ⟨_, rfl⟩
    rw [← hX] at HLS hm3 HERR HINS
    obtain ⟨m, hm⟩ : ∃ m, m = X.length := ⟨_, rfl⟩
    rw [← hm] at HLS hm3 HERR
    have HM := hide hm.symm
    have hk : k ≤ n := by omega
    have hw2 : IntKind.i64.wrap ((65536 : Int) - (n : Int)) = (65536 : Int) - (n : Int) := IntWalk.i64_in _ (by omega)
    rw [← hn] at HERR
    clear h hn h1 h2 hvs hX hm hin
    by_cases h4 : 65536 < n + m
    · have z3 : decide ((65536 : Int) - (n : Int) < (m : Int)) = true := decide_eq_true (by omega)
      rw [if_pos h4] at HERR
      clear h4 hA
      go_enter Tryd.func44, Tryd.ntmps44
      go_wp2_with fail
      refine Calls.mono HLS.out ?_
      rintro r w2 ⟨B, d, rfl, hsl, hf, hb⟩
      have HR2 := hide (H.out.below hb)
      have d0 : w2.cell? ⟨rb, 0, none⟩ = some (.slice A n c) := by rw [HR2.out.blk.cell]; rfl
      clear hsl hf hb
      go_wp2
      go_ret
      exact ⟨by rw [HERR.out]; rfl, _, by rw [HBAD.out _ HERR.out (by decide)]; exact HR2.out⟩
    · have z3 : decide ((65536 : Int) - (n : Int) < (m : Int)) = false := decide_eq_false (by omega)
      rw [if_neg h4] at HERR
      rw [HINS.out HERR.out]
      have hnm : n + m ≤ 65536 := by omega
      obtain ⟨Z, hZ⟩ : ∃ Z, Z = L.take k ++ X ++ L.drop k := ⟨_, rfl⟩
      obtain ⟨N, hN⟩ : ∃ N, N = Z.length := ⟨_, rfl⟩
      have HFIN := hide (fun (w' : World) (v' : Value) (h : Sl w' 3 1 v' (k + m + (n - k)) (ints (L.take k) ++ ints X ++ ints (L.drop k))) => (show Sl w' 3 1 v' N (ints Z) by rw [hN, hZ]; exact fin_ins (w := w') (v := v') HL.out HM.out hk h))
      rw [← hZ]
      have HNZ := hide hN
      clear hZ hN
      have hw3 : IntKind.i64.wrap ((k : Int) + 1 - 1) = (k : Int) := by
        rw [show (k : Int) + 1 - 1 = (k : Int) by omega]
        exact IntWalk.i64_in _ (by omega)
      have hw5 : IntKind.i64.wrap (k : Int) = (k : Int) := IntWalk.i64_in _ (by omega)
      have hw0 : IntKind.i64.wrap 0 = 0 := IntWalk.i64_in _ (by omega)
      clear h4 HINS HBAD
      unfold maxLen at hc
      go_enter Tryd.func44, Tryd.ntmps44
      go_wp2_with fail
      refine Calls.mono HLS.out ?_
      rintro r w2 ⟨B, d, rfl, hsl, hf, hb⟩
      have HR2 := hide (H.out.below hb)
      have HSX := hide hsl
      have d0 : w2.cell? ⟨rb, 0, none⟩ = some (.slice A n c) := by rw [HR2.out.blk.cell]; rfl
      clear hsl hf hb c0
      go_wp2_with fail
      rcases hA with ⟨rfl, rfl⟩ | ⟨g, off, rfl⟩
      · obtain rfl : n = 0 := by omega
        obtain rfl : k = 0 := by omega
        have H5 := hide (HR2.out.below (Below.refl _ _).drew)
        have HMX := hide (HSX.out.rd.belowF (Below.refl _ _).drew)
        refine wp_region_d (S := fun w' => w'.cell? ⟨rb, 0, none⟩ = some (.slice none 0 0)) (D := [22]) (by kernel_rfl) ?_
        change wpAnyD _ _ _ _ _ _ _ _ _ w2.drew
        generalize w2.drew = w0 at H5 HMX ⊢
        have b0 := hide (Below.refl w0.heap.size w0)
        have HQ := hide (show ∀ w', Below w0.heap.size w0 w' → w'.cell? ⟨rb, 0, none⟩ = some (.slice none 0 0) from fun w' hb => by rw [(H5.out.below hb).blk.cell]; rfl)
        have HFT := hide (fun w' (_ : Below w0.heap.size w0 w') => rd_take0 (w := w') (L := L))
        have HBK := hide (fun w' (_ : Below w0.heap.size w0 w') => rd_drop0 (w := w') HL.out)
        have HMD := hide (fun w' (hb : Below w0.heap.size w0 w') => HMX.out.belowF hb)
        obtain ⟨i0, hi, hz0, hz1, hz2⟩ := info_parts info_int
        have hS := HQ.out _ b0.out
        refine wpAnyD_takeW (i := 0) (oi := { dst := some 40, op := Op.move (Operand.tmp 0), type := 24, pos := "ref.go:65", after := #[], guard := none }) (v := ?_) rfl (by kernel_rfl) (by kernel_rfl) (by kernel_rfl) (fun _ _ _ h => h) (Or.inl ⟨by rfl, ?_⟩) ?_
        rotate_left
        · intro w hSw
          clear hSw
          go_simp
          all_goals with_reducible rfl
        simp only [Act.put, List.setIfInBounds_toArray, List.set_cons_zero, List.set_cons_succ]
        refine wpAnyD_takeW (i := 2) (oi := { dst := some 42, op := Op.move (Operand.tmp 0), type := 24, pos := "ref.go:65", after := #[], guard := none }) (v := ?_) rfl (by kernel_rfl) (by kernel_rfl) (by kernel_rfl) (fun _ _ _ h => h) (Or.inl ⟨by rfl, ?_⟩) ?_
        rotate_left
        · intro w hSw
          clear hSw
          go_simp
          all_goals with_reducible rfl
        simp only [Act.put, List.setIfInBounds_toArray, List.set_cons_zero, List.set_cons_succ]
        refine wpAnyD_takeW (i := 3) (oi := { dst := some 43, op := Op.nilCheck (Operand.tmp 42), type := 0, pos := "ref.go:65", after := #[{ on := 2, ground := Ground.data }], guard := none }) (v := ?_) rfl (by kernel_rfl) (by kernel_rfl) (by kernel_rfl) (fun _ _ _ h => h) (Or.inl ⟨by rfl, ?_⟩) ?_
        rotate_left
        · intro w hSw
          clear hSw
          go_simp
          all_goals with_reducible rfl
        simp only [Act.put, List.setIfInBounds_toArray, List.set_cons_zero, List.set_cons_succ]
        refine wpAnyD_takeW (i := 4) (oi := { dst := some 44, op := Op.fieldAddr 75 (Operand.tmp 43) 0, type := 0, pos := "ref.go:65", after := #[{ on := 3, ground := Ground.data }], guard := none }) (v := ?_) rfl (by kernel_rfl) (by kernel_rfl) (by kernel_rfl) (fun _ _ _ h => h) (Or.inl ⟨by rfl, ?_⟩) ?_
        rotate_left
        · intro w hSw
          clear hSw
          go_simp
          all_goals with_reducible rfl
        simp only [Act.put, List.setIfInBounds_toArray, List.set_cons_zero, List.set_cons_succ]
        refine wpAnyD_take (i := 5) (oi := { dst := some 45, op := Op.load 71 (Operand.tmp 44), type := 71, pos := "ref.go:65", after := #[{ on := 4, ground := Ground.data }], guard := none }) (v := ?_) rfl (by kernel_rfl) (by kernel_rfl) (by kernel_rfl) (by kernel_rfl) (by kernel_rfl) (fun _ _ _ h => h) (Or.inl ⟨by rfl, ?_⟩) hS ?_
        rotate_left
        · intro w hSw
          (try dsimp only at hSw)
          go_simp
          all_goals with_reducible rfl
        simp only [Act.put, List.setIfInBounds_toArray, List.set_cons_zero, List.set_cons_succ]
        refine wpAnyD_takeW (i := 6) (oi := { dst := some 46, op := Op.move (Operand.tmp 1), type := 3, pos := "ref.go:65", after := #[], guard := none }) (v := ?_) rfl (by kernel_rfl) (by kernel_rfl) (by kernel_rfl) (fun _ _ _ h => h) (Or.inl ⟨by rfl, ?_⟩) ?_
        rotate_left
        · intro w hSw
          clear hSw
          go_simp
          all_goals with_reducible rfl
        simp only [Act.put, List.setIfInBounds_toArray, List.set_cons_zero, List.set_cons_succ]
        refine wpAnyD_takeW (i := 7) (oi := { dst := some 47, op := Op.binOp BinOp.sub 3 (Operand.tmp 46) (Operand.const (Value.int IntKind.i64 1)) 3, type := 3, pos := "ref.go:65", after := #[{ on := 6, ground := Ground.data }], guard := none }) (v := ?_) rfl (by kernel_rfl) (by kernel_rfl) (by kernel_rfl) (fun _ _ _ h => h) (Or.inl ⟨by rfl, ?_⟩) ?_
        rotate_left
        · intro w hSw
          clear hSw
          go_simp
          all_goals with_reducible rfl
        simp only [Act.put, List.setIfInBounds_toArray, List.set_cons_zero, List.set_cons_succ]
        refine wpAnyD_takeW (i := 8) (oi := { dst := some 48, op := Op.slice 71 (Operand.tmp 45) none (some (Operand.tmp 47)) none, type := 71, pos := "ref.go:65", after := #[{ on := 5, ground := Ground.data }, { on := 7, ground := Ground.data }], guard := none }) (v := ?_) rfl (by kernel_rfl) (by kernel_rfl) (by kernel_rfl) (fun _ _ _ h => h) (Or.inl ⟨by rfl, ?_⟩) ?_
        rotate_left
        · intro w hSw
          clear hSw
          go_simp
          all_goals with_reducible rfl
        simp only [Act.put, List.setIfInBounds_toArray, List.set_cons_zero, List.set_cons_succ]
        refine wpAnyD_takeW (i := 10) (oi := { dst := some 50, op := Op.move (Operand.tmp 7), type := 71, pos := "ref.go:65", after := #[], guard := none }) (v := ?_) rfl (by kernel_rfl) (by kernel_rfl) (by kernel_rfl) (fun _ _ _ h => h) (Or.inl ⟨by rfl, ?_⟩) ?_
        rotate_left
        · intro w hSw
          clear hSw
          go_simp
          all_goals with_reducible rfl
        simp only [Act.put, List.setIfInBounds_toArray, List.set_cons_zero, List.set_cons_succ]
        refine wpAnyD_takeW (i := 12) (oi := { dst := some 52, op := Op.move (Operand.tmp 0), type := 24, pos := "ref.go:65", after := #[], guard := none }) (v := ?_) rfl (by kernel_rfl) (by kernel_rfl) (by kernel_rfl) (fun _ _ _ h => h) (Or.inl ⟨by rfl, ?_⟩) ?_
        rotate_left
        · intro w hSw
          clear hSw
          go_simp
          all_goals with_reducible rfl
        simp only [Act.put, List.setIfInBounds_toArray, List.set_cons_zero, List.set_cons_succ]
        refine wpAnyD_takeW (i := 13) (oi := { dst := some 53, op := Op.nilCheck (Operand.tmp 52), type := 0, pos := "ref.go:65", after := #[{ on := 12, ground := Ground.data }], guard := none }) (v := ?_) rfl (by kernel_rfl) (by kernel_rfl) (by kernel_rfl) (fun _ _ _ h => h) (Or.inl ⟨by rfl, ?_⟩) ?_
        rotate_left
        · intro w hSw
          clear hSw
          go_simp
          all_goals with_reducible rfl
        simp only [Act.put, List.setIfInBounds_toArray, List.set_cons_zero, List.set_cons_succ]
        refine wpAnyD_takeW (i := 14) (oi := { dst := some 54, op := Op.fieldAddr 75 (Operand.tmp 53) 0, type := 0, pos := "ref.go:65", after := #[{ on := 13, ground := Ground.data }], guard := none }) (v := ?_) rfl (by kernel_rfl) (by kernel_rfl) (by kernel_rfl) (fun _ _ _ h => h) (Or.inl ⟨by rfl, ?_⟩) ?_
        rotate_left
        · intro w hSw
          clear hSw
          go_simp
          all_goals with_reducible rfl
        simp only [Act.put, List.setIfInBounds_toArray, List.set_cons_zero, List.set_cons_succ]
        refine wpAnyD_take (i := 15) (oi := { dst := some 55, op := Op.load 71 (Operand.tmp 54), type := 71, pos := "ref.go:65", after := #[{ on := 14, ground := Ground.data }], guard := none }) (v := ?_) rfl (by kernel_rfl) (by kernel_rfl) (by kernel_rfl) (by kernel_rfl) (by kernel_rfl) (fun _ _ _ h => h) (Or.inl ⟨by rfl, ?_⟩) hS ?_
        rotate_left
        · intro w hSw
          (try dsimp only at hSw)
          go_simp
          all_goals with_reducible rfl
        simp only [Act.put, List.setIfInBounds_toArray, List.set_cons_zero, List.set_cons_succ]
        refine wpAnyD_takeW (i := 16) (oi := { dst := some 56, op := Op.move (Operand.tmp 1), type := 3, pos := "ref.go:65", after := #[], guard := none }) (v := ?_) rfl (by kernel_rfl) (by kernel_rfl) (by kernel_rfl) (fun _ _ _ h => h) (Or.inl ⟨by rfl, ?_⟩) ?_
        rotate_left
        · intro w hSw
          clear hSw
          go_simp
          all_goals with_reducible rfl
        simp only [Act.put, List.setIfInBounds_toArray, List.set_cons_zero, List.set_cons_succ]
        refine wpAnyD_takeW (i := 17) (oi := { dst := some 57, op := Op.binOp BinOp.sub 3 (Operand.tmp 56) (Operand.const (Value.int IntKind.i64 1)) 3, type := 3, pos := "ref.go:65", after := #[{ on := 16, ground := Ground.data }], guard := none }) (v := ?_) rfl (by kernel_rfl) (by kernel_rfl) (by kernel_rfl) (fun _ _ _ h => h) (Or.inl ⟨by rfl, ?_⟩) ?_
        rotate_left
        · intro w hSw
          clear hSw
          go_simp
          all_goals with_reducible rfl
        simp only [Act.put, List.setIfInBounds_toArray, List.set_cons_zero, List.set_cons_succ]
        refine wpAnyD_takeW (i := 18) (oi := { dst := some 58, op := Op.slice 71 (Operand.tmp 55) (some (Operand.tmp 57)) none none, type := 71, pos := "ref.go:65", after := #[{ on := 15, ground := Ground.data }, { on := 17, ground := Ground.data }], guard := none }) (v := ?_) rfl (by kernel_rfl) (by kernel_rfl) (by kernel_rfl) (fun _ _ _ h => h) (Or.inl ⟨by rfl, ?_⟩) ?_
        rotate_left
        · intro w hSw
          clear hSw
          go_simp
          all_goals with_reducible rfl
        simp only [Act.put, List.setIfInBounds_toArray, List.set_cons_zero, List.set_cons_succ]
        clear hS
        refine wpAnyD_one (i := 1) (o := { dst := some 41, op := Op.buildSlice 71 0 #[], type := 71, pos := "ref.go:65", after := #[], guard := none }) (by kernel_rfl) rfl (fun K hK => ?_)
        have b1 := hide (b0.out.alloc b0.out.size (.cells #[] 3))
        have E1 := hide (show Sl (w0.alloc (.cells #[] 3)) 3 1 (.slice (some ⟨w0.heap.size, 0, none⟩) 0 0) 0 [] from by simpa using (Sl.new w0 3 1 #[] 0 0 (Nat.le_refl _) (Nat.zero_le _) (Nat.le_refl _)))
        have V1 := hide (show ∀ g, (Value.slice (some ⟨w0.heap.size, 0, none⟩) 0 0).ownBlock = some g → w0.heap.size ≤ g from fun g hg => by
          cases hg
          exact Nat.le_refl _)
        go_simp
        refine hK _ _ (fun _ _ => HQ.out _ b1.out) ?_
        clear hK K
        try simp only [Act.put, List.setIfInBounds_toArray, List.set_cons_zero, List.set_cons_succ]
        refine wpAnyD_one (i := 9) (o := { dst := some 49, op := Op.call { callee := Callee.builtin Builtin.append, args := #[Operand.tmp 41, Operand.tmp 48], argTypes := #[71, 71] }, type := 71, pos := "ref.go:65", after := #[{ on := 1, ground := Ground.data }, { on := 8, ground := Ground.data }], guard := none }) (by kernel_rfl) rfl (fun K hK => ?_)
        refine step_append_w (by rfl) (.tmp 41) (.tmp 48) 71 rfl 3 i0 _ 1 8 Tryd.underlying71 hi hz0 hz1 hz2 rfl (.slice (some ⟨w0.heap.size, 0, none⟩) 0 0) (0) ([]) rfl E1.out _ rfl 0 (ints (L.take 0)) (HFT.out _ b1.out) (ints_one _) (by unfold maxLen; omega) (by omega) ?_
        intro v2 w2 hs2 ho2 hv2
        rw [Nat.zero_add, List.nil_append] at hs2
        have b2 := hide (b1.out.trans (ho2.below b1.out.size fun i hi => V1.out i hi))
        have E2 := hide hs2
        have V2 := hide (show ∀ g, v2.ownBlock = some g → w0.heap.size ≤ g from fun g hg => by
          rcases hv2 with e | e
          · exact V1.out g (by rw [← e]; exact hg)
          · rw [e] at hg
            cases hg
            exact b1.out.size)
        clear hs2 ho2 hv2
        refine hK _ _ (fun _ _ => HQ.out _ b2.out) ?_
        clear hK K
        try simp only [Act.put, List.setIfInBounds_toArray, List.set_cons_zero, List.set_cons_succ]
        refine wpAnyD_one (i := 11) (o := { dst := some 51, op := Op.call { callee := Callee.builtin Builtin.append, args := #[Operand.tmp 49, Operand.tmp 50], argTypes := #[71, 71] }, type := 71, pos := "ref.go:65", after := #[{ on := 9, ground := Ground.data }, { on := 10, ground := Ground.data }, { on := 9, ground := Ground.chain }], guard := none }) (by kernel_rfl) rfl (fun K hK => ?_)
        refine step_append_w (by rfl) (.tmp 49) (.tmp 50) 71 rfl 3 i0 _ 1 8 Tryd.underlying71 hi hz0 hz1 hz2 rfl v2 (0) (ints (L.take 0)) rfl E2.out _ rfl m (ints X) (HMD.out _ b2.out) (ints_one _) (by unfold maxLen; omega) (by omega) ?_
        intro v3 w3 hs3 ho3 hv3
        have b3 := hide (b2.out.trans (ho3.below b2.out.size fun i hi => V2.out i hi))
        have E3 := hide hs3
        have V3 := hide (show ∀ g, v3.ownBlock = some g → w0.heap.size ≤ g from fun g hg => by
          rcases hv3 with e | e
          · exact V2.out g (by rw [← e]; exact hg)
          · rw [e] at hg
            cases hg
            exact b2.out.size)
        clear hs3 ho3 hv3
        refine hK _ _ (fun _ _ => HQ.out _ b3.out) ?_
        clear hK K
        try simp only [Act.put, List.setIfInBounds_toArray, List.set_cons_zero, List.set_cons_succ]
        refine wpAnyD_one (i := 19) (o := { dst := some 59, op := Op.call { callee := Callee.builtin Builtin.append, args := #[Operand.tmp 51, Operand.tmp 58], argTypes := #[71, 71] }, type := 71, pos := "ref.go:65", after := #[{ on := 11, ground := Ground.data }, { on := 18, ground := Ground.data }, { on := 11, ground := Ground.chain }], guard := none }) (by kernel_rfl) rfl (fun K hK => ?_)
        refine step_append_w (by rfl) (.tmp 51) (.tmp 58) 71 rfl 3 i0 _ 1 8 Tryd.underlying71 hi hz0 hz1 hz2 rfl v3 (0 + m) (ints (L.take 0) ++ ints X) rfl E3.out _ rfl 0 (ints (L.drop 0)) (HBK.out _ b3.out) (ints_one _) (by unfold maxLen; omega) (by omega) ?_
        intro v4 w4 hs4 ho4 hv4
        have b4 := hide (b3.out.trans (ho4.below b3.out.size fun i hi => V3.out i hi))
        have E4 := hide hs4
        have V4 := hide (show ∀ g, v4.ownBlock = some g → w0.heap.size ≤ g from fun g hg => by
          rcases hv4 with e | e
          · exact V3.out g (by rw [← e]; exact hg)
          · rw [e] at hg
            cases hg
            exact b3.out.size)
        clear hs4 ho4 hv4
        refine hK _ _ (fun _ _ => HQ.out _ b4.out) ?_
        clear hK K
        try simp only [Act.put, List.setIfInBounds_toArray, List.set_cons_zero, List.set_cons_succ]
        have EF := hide (HFIN.out _ _ E4.out)
        obtain ⟨Ax, cx, hvx, _⟩ := id EF.out.form
        subst hvx
        refine wpAnyD_takeW (i := 20) (oi := { dst := some 60, op := Op.nilCheck (Operand.tmp 40), type := 0, pos := "ref.go:65", after := #[{ on := 0, ground := Ground.data }, { on := 0, ground := Ground.phase }, { on := 1, ground := Ground.phase }, { on := 2, ground := Ground.phase }, { on := 3, ground := Ground.phase }, { on := 4, ground := Ground.phase }, { on := 5, ground := Ground.phase }, { on := 6, ground := Ground.phase }, { on := 7, ground := Ground.phase }, { on := 8, ground := Ground.phase }, { on := 9, ground := Ground.phase }, { on := 10, ground := Ground.phase }, { on := 11, ground := Ground.phase }, { on := 12, ground := Ground.phase }, { on := 13, ground := Ground.phase }, { on := 14, ground := Ground.phase }, { on := 15, ground := Ground.phase }, { on := 16, ground := Ground.phase }, { on := 17, ground := Ground.phase }, { on := 18, ground := Ground.phase }, { on := 19, ground := Ground.phase }], guard := none }) (v := ?_) rfl (by kernel_rfl) (by kernel_rfl) (by kernel_rfl) (fun _ _ _ h => h) (Or.inl ⟨by rfl, ?_⟩) ?_
        rotate_left
        · intro w hSw
          clear hSw
          go_simp
          all_goals with_reducible rfl
        simp only [Act.put, List.setIfInBounds_toArray, List.set_cons_zero, List.set_cons_succ]
        refine wpAnyD_takeW (i := 21) (oi := { dst := some 61, op := Op.fieldAddr 75 (Operand.tmp 60) 0, type := 0, pos := "ref.go:65", after := #[{ on := 20, ground := Ground.data }, { on := 0, ground := Ground.phase }, { on := 1, ground := Ground.phase }, { on := 2, ground := Ground.phase }, { on := 3, ground := Ground.phase }, { on := 4, ground := Ground.phase }, { on := 5, ground := Ground.phase }, { on := 6, ground := Ground.phase }, { on := 7, ground := Ground.phase }, { on := 8, ground := Ground.phase }, { on := 9, ground := Ground.phase }, { on := 10, ground := Ground.phase }, { on := 11, ground := Ground.phase }, { on := 12, ground := Ground.phase }, { on := 13, ground := Ground.phase }, { on := 14, ground := Ground.phase }, { on := 15, ground := Ground.phase }, { on := 16, ground := Ground.phase }, { on := 17, ground := Ground.phase }, { on := 18, ground := Ground.phase }, { on := 19, ground := Ground.phase }], guard := none }) (v := ?_) rfl (by kernel_rfl) (by kernel_rfl) (by kernel_rfl) (fun _ _ _ h => h) (Or.inl ⟨by rfl, ?_⟩) ?_
        rotate_left
        · intro w hSw
          clear hSw
          go_simp
          all_goals with_reducible rfl
        simp only [Act.put, List.setIfInBounds_toArray, List.set_cons_zero, List.set_cons_succ]
        have fz : w4.frozen? ⟨rb, 0, none⟩ = false := (H5.out.below b4.out).blk.frozen 0
        have hS := HQ.out _ b4.out
        refine wpAnyD_one (i := 22) (o := { dst := none, op := Op.store 71 (Operand.tmp 61) (Operand.tmp 59), type := 0, pos := "ref.go:65", after := #[{ on := 21, ground := Ground.data }, { on := 19, ground := Ground.data }, { on := 19, ground := Ground.chain }, { on := 0, ground := Ground.phase }, { on := 1, ground := Ground.phase }, { on := 2, ground := Ground.phase }, { on := 3, ground := Ground.phase }, { on := 4, ground := Ground.phase }, { on := 5, ground := Ground.phase }, { on := 6, ground := Ground.phase }, { on := 7, ground := Ground.phase }, { on := 8, ground := Ground.phase }, { on := 9, ground := Ground.phase }, { on := 10, ground := Ground.phase }, { on := 11, ground := Ground.phase }, { on := 12, ground := Ground.phase }, { on := 13, ground := Ground.phase }, { on := 14, ground := Ground.phase }, { on := 15, ground := Ground.phase }, { on := 16, ground := Ground.phase }, { on := 17, ground := Ground.phase }, { on := 18, ground := Ground.phase }, { on := 19, ground := Ground.phase }], guard := none }) (by kernel_rfl) rfl (fun K hK => ?_)
        go_simp
        refine hK _ _ (fun h => by cases h) ?_
        clear hK K
        try simp only [Act.put, List.setIfInBounds_toArray, List.set_cons_zero, List.set_cons_succ]
        refine wpAnyD_done (by kernel_rfl) ?_ _
        go_wp2
        all_goals go_ret
        all_goals exact ⟨by rw [HERR.out]; rfl, _, H5.out.setn HNZ.out b4.out EF.out V4.out⟩
      · have kb1 : (0 : Int) ≤ (k : Int) := by omega
        have kb2 : (k : Int) ≤ (c : Int) := by omega
        have kb3 : (k : Int) ≤ (n : Int) := by omega
        have kb4 : (n : Int) ≤ (c : Int) := by omega
        have H5 := hide (HR2.out.below (Below.refl _ _).drew)
        have HMX := hide (HSX.out.rd.belowF (Below.refl _ _).drew)
        refine wp_region_d (S := fun w' => w'.cell? ⟨rb, 0, none⟩ = some (.slice (some ⟨g, off, none⟩) n c)) (D := [22]) (by kernel_rfl) ?_
        change wpAnyD _ _ _ _ _ _ _ _ _ w2.drew
        generalize w2.drew = w0 at H5 HMX ⊢
        have b0 := hide (Below.refl w0.heap.size w0)
        have HQ := hide (show ∀ w', Below w0.heap.size w0 w' → w'.cell? ⟨rb, 0, none⟩ = some (.slice (some ⟨g, off, none⟩) n c) from fun w' hb => by rw [(H5.out.below hb).blk.cell]; rfl)
        have HFT := hide (fun w' (hb : Below w0.heap.size w0 w') => rd_take (k := k) (by have h1 := (H5.out.sl.rd).belowF hb; rwa [HL.out] at h1) (by omega))
        have HBK := hide (fun w' (hb : Below w0.heap.size w0 w') => rd_drop (k := k) (by have h1 := (H5.out.sl.rd).belowF hb; rwa [HL.out] at h1) (by omega) hnc)
        have HMD := hide (fun w' (hb : Below w0.heap.size w0 w') => HMX.out.belowF hb)
        obtain ⟨i0, hi, hz0, hz1, hz2⟩ := info_parts info_int
        have hS := HQ.out _ b0.out
        refine wpAnyD_takeW (i := 0) (oi := { dst := some 40, op := Op.move (Operand.tmp 0), type := 24, pos := "ref.go:65", after := #[], guard := none }) (v := ?_) rfl (by kernel_rfl) (by kernel_rfl) (by kernel_rfl) (fun _ _ _ h => h) (Or.inl ⟨by rfl, ?_⟩) ?_
        rotate_left
        · intro w hSw
          clear hSw
          go_simp
          all_goals with_reducible rfl
        simp only [Act.put, List.setIfInBounds_toArray, List.set_cons_zero, List.set_cons_succ]
        refine wpAnyD_takeW (i := 2) (oi := { dst := some 42, op := Op.move (Operand.tmp 0), type := 24, pos := "ref.go:65", after := #[], guard := none }) (v := ?_) rfl (by kernel_rfl) (by kernel_rfl) (by kernel_rfl) (fun _ _ _ h => h) (Or.inl ⟨by rfl, ?_⟩) ?_
        rotate_left
        · intro w hSw
          clear hSw
          go_simp
          all_goals with_reducible rfl
        simp only [Act.put, List.setIfInBounds_toArray, List.set_cons_zero, List.set_cons_succ]
        refine wpAnyD_takeW (i := 3) (oi := { dst := some 43, op := Op.nilCheck (Operand.tmp 42), type := 0, pos := "ref.go:65", after := #[{ on := 2, ground := Ground.data }], guard := none }) (v := ?_) rfl (by kernel_rfl) (by kernel_rfl) (by kernel_rfl) (fun _ _ _ h => h) (Or.inl ⟨by rfl, ?_⟩) ?_
        rotate_left
        · intro w hSw
          clear hSw
          go_simp
          all_goals with_reducible rfl
        simp only [Act.put, List.setIfInBounds_toArray, List.set_cons_zero, List.set_cons_succ]
        refine wpAnyD_takeW (i := 4) (oi := { dst := some 44, op := Op.fieldAddr 75 (Operand.tmp 43) 0, type := 0, pos := "ref.go:65", after := #[{ on := 3, ground := Ground.data }], guard := none }) (v := ?_) rfl (by kernel_rfl) (by kernel_rfl) (by kernel_rfl) (fun _ _ _ h => h) (Or.inl ⟨by rfl, ?_⟩) ?_
        rotate_left
        · intro w hSw
          clear hSw
          go_simp
          all_goals with_reducible rfl
        simp only [Act.put, List.setIfInBounds_toArray, List.set_cons_zero, List.set_cons_succ]
        refine wpAnyD_take (i := 5) (oi := { dst := some 45, op := Op.load 71 (Operand.tmp 44), type := 71, pos := "ref.go:65", after := #[{ on := 4, ground := Ground.data }], guard := none }) (v := ?_) rfl (by kernel_rfl) (by kernel_rfl) (by kernel_rfl) (by kernel_rfl) (by kernel_rfl) (fun _ _ _ h => h) (Or.inl ⟨by rfl, ?_⟩) hS ?_
        rotate_left
        · intro w hSw
          (try dsimp only at hSw)
          go_simp
          all_goals with_reducible rfl
        simp only [Act.put, List.setIfInBounds_toArray, List.set_cons_zero, List.set_cons_succ]
        refine wpAnyD_takeW (i := 6) (oi := { dst := some 46, op := Op.move (Operand.tmp 1), type := 3, pos := "ref.go:65", after := #[], guard := none }) (v := ?_) rfl (by kernel_rfl) (by kernel_rfl) (by kernel_rfl) (fun _ _ _ h => h) (Or.inl ⟨by rfl, ?_⟩) ?_
        rotate_left
        · intro w hSw
          clear hSw
          go_simp
          all_goals with_reducible rfl
        simp only [Act.put, List.setIfInBounds_toArray, List.set_cons_zero, List.set_cons_succ]
        refine wpAnyD_takeW (i := 7) (oi := { dst := some 47, op := Op.binOp BinOp.sub 3 (Operand.tmp 46) (Operand.const (Value.int IntKind.i64 1)) 3, type := 3, pos := "ref.go:65", after := #[{ on := 6, ground := Ground.data }], guard := none }) (v := ?_) rfl (by kernel_rfl) (by kernel_rfl) (by kernel_rfl) (fun _ _ _ h => h) (Or.inl ⟨by rfl, ?_⟩) ?_
        rotate_left
        · intro w hSw
          clear hSw
          go_simp
          all_goals with_reducible rfl
        simp only [Act.put, List.setIfInBounds_toArray, List.set_cons_zero, List.set_cons_succ]
        refine wpAnyD_takeW (i := 8) (oi := { dst := some 48, op := Op.slice 71 (Operand.tmp 45) none (some (Operand.tmp 47)) none, type := 71, pos := "ref.go:65", after := #[{ on := 5, ground := Ground.data }, { on := 7, ground := Ground.data }], guard := none }) (v := ?_) rfl (by kernel_rfl) (by kernel_rfl) (by kernel_rfl) (fun _ _ _ h => h) (Or.inl ⟨by rfl, ?_⟩) ?_
        rotate_left
        · intro w hSw
          clear hSw
          go_simp
          all_goals with_reducible rfl
        simp only [Act.put, List.setIfInBounds_toArray, List.set_cons_zero, List.set_cons_succ]
        refine wpAnyD_takeW (i := 10) (oi := { dst := some 50, op := Op.move (Operand.tmp 7), type := 71, pos := "ref.go:65", after := #[], guard := none }) (v := ?_) rfl (by kernel_rfl) (by kernel_rfl) (by kernel_rfl) (fun _ _ _ h => h) (Or.inl ⟨by rfl, ?_⟩) ?_
        rotate_left
        · intro w hSw
          clear hSw
          go_simp
          all_goals with_reducible rfl
        simp only [Act.put, List.setIfInBounds_toArray, List.set_cons_zero, List.set_cons_succ]
        refine wpAnyD_takeW (i := 12) (oi := { dst := some 52, op := Op.move (Operand.tmp 0), type := 24, pos := "ref.go:65", after := #[], guard := none }) (v := ?_) rfl (by kernel_rfl) (by kernel_rfl) (by kernel_rfl) (fun _ _ _ h => h) (Or.inl ⟨by rfl, ?_⟩) ?_
        rotate_left
        · intro w hSw
          clear hSw
          go_simp
          all_goals with_reducible rfl
        simp only [Act.put, List.setIfInBounds_toArray, List.set_cons_zero, List.set_cons_succ]
        refine wpAnyD_takeW (i := 13) (oi := { dst := some 53, op := Op.nilCheck (Operand.tmp 52), type := 0, pos := "ref.go:65", after := #[{ on := 12, ground := Ground.data }], guard := none }) (v := ?_) rfl (by kernel_rfl) (by kernel_rfl) (by kernel_rfl) (fun _ _ _ h => h) (Or.inl ⟨by rfl, ?_⟩) ?_
        rotate_left
        · intro w hSw
          clear hSw
          go_simp
          all_goals with_reducible rfl
        simp only [Act.put, List.setIfInBounds_toArray, List.set_cons_zero, List.set_cons_succ]
        refine wpAnyD_takeW (i := 14) (oi := { dst := some 54, op := Op.fieldAddr 75 (Operand.tmp 53) 0, type := 0, pos := "ref.go:65", after := #[{ on := 13, ground := Ground.data }], guard := none }) (v := ?_) rfl (by kernel_rfl) (by kernel_rfl) (by kernel_rfl) (fun _ _ _ h => h) (Or.inl ⟨by rfl, ?_⟩) ?_
        rotate_left
        · intro w hSw
          clear hSw
          go_simp
          all_goals with_reducible rfl
        simp only [Act.put, List.setIfInBounds_toArray, List.set_cons_zero, List.set_cons_succ]
        refine wpAnyD_take (i := 15) (oi := { dst := some 55, op := Op.load 71 (Operand.tmp 54), type := 71, pos := "ref.go:65", after := #[{ on := 14, ground := Ground.data }], guard := none }) (v := ?_) rfl (by kernel_rfl) (by kernel_rfl) (by kernel_rfl) (by kernel_rfl) (by kernel_rfl) (fun _ _ _ h => h) (Or.inl ⟨by rfl, ?_⟩) hS ?_
        rotate_left
        · intro w hSw
          (try dsimp only at hSw)
          go_simp
          all_goals with_reducible rfl
        simp only [Act.put, List.setIfInBounds_toArray, List.set_cons_zero, List.set_cons_succ]
        refine wpAnyD_takeW (i := 16) (oi := { dst := some 56, op := Op.move (Operand.tmp 1), type := 3, pos := "ref.go:65", after := #[], guard := none }) (v := ?_) rfl (by kernel_rfl) (by kernel_rfl) (by kernel_rfl) (fun _ _ _ h => h) (Or.inl ⟨by rfl, ?_⟩) ?_
        rotate_left
        · intro w hSw
          clear hSw
          go_simp
          all_goals with_reducible rfl
        simp only [Act.put, List.setIfInBounds_toArray, List.set_cons_zero, List.set_cons_succ]
        refine wpAnyD_takeW (i := 17) (oi := { dst := some 57, op := Op.binOp BinOp.sub 3 (Operand.tmp 56) (Operand.const (Value.int IntKind.i64 1)) 3, type := 3, pos := "ref.go:65", after := #[{ on := 16, ground := Ground.data }], guard := none }) (v := ?_) rfl (by kernel_rfl) (by kernel_rfl) (by kernel_rfl) (fun _ _ _ h => h) (Or.inl ⟨by rfl, ?_⟩) ?_
        rotate_left
        · intro w hSw
          clear hSw
          go_simp
          all_goals with_reducible rfl
        simp only [Act.put, List.setIfInBounds_toArray, List.set_cons_zero, List.set_cons_succ]
        refine wpAnyD_takeW (i := 18) (oi := { dst := some 58, op := Op.slice 71 (Operand.tmp 55) (some (Operand.tmp 57)) none none, type := 71, pos := "ref.go:65", after := #[{ on := 15, ground := Ground.data }, { on := 17, ground := Ground.data }], guard := none }) (v := ?_) rfl (by kernel_rfl) (by kernel_rfl) (by kernel_rfl) (fun _ _ _ h => h) (Or.inl ⟨by rfl, ?_⟩) ?_
        rotate_left
        · intro w hSw
          clear hSw
          go_simp
          all_goals with_reducible rfl
        simp only [Act.put, List.setIfInBounds_toArray, List.set_cons_zero, List.set_cons_succ]
        clear hS
        refine wpAnyD_one (i := 1) (o := { dst := some 41, op := Op.buildSlice 71 0 #[], type := 71, pos := "ref.go:65", after := #[], guard := none }) (by kernel_rfl) rfl (fun K hK => ?_)
        have b1 := hide (b0.out.alloc b0.out.size (.cells #[] 3))
        have E1 := hide (show Sl (w0.alloc (.cells #[] 3)) 3 1 (.slice (some ⟨w0.heap.size, 0, none⟩) 0 0) 0 [] from by simpa using (Sl.new w0 3 1 #[] 0 0 (Nat.le_refl _) (Nat.zero_le _) (Nat.le_refl _)))
        have V1 := hide (show ∀ g, (Value.slice (some ⟨w0.heap.size, 0, none⟩) 0 0).ownBlock = some g → w0.heap.size ≤ g from fun g hg => by
          cases hg
          exact Nat.le_refl _)
        go_simp
        refine hK _ _ (fun _ _ => HQ.out _ b1.out) ?_
        clear hK K
        try simp only [Act.put, List.setIfInBounds_toArray, List.set_cons_zero, List.set_cons_succ]
        refine wpAnyD_one (i := 9) (o := { dst := some 49, op := Op.call { callee := Callee.builtin Builtin.append, args := #[Operand.tmp 41, Operand.tmp 48], argTypes := #[71, 71] }, type := 71, pos := "ref.go:65", after := #[{ on := 1, ground := Ground.data }, { on := 8, ground := Ground.data }], guard := none }) (by kernel_rfl) rfl (fun K hK => ?_)
        refine step_append_w (by rfl) (.tmp 41) (.tmp 48) 71 rfl 3 i0 _ 1 8 Tryd.underlying71 hi hz0 hz1 hz2 rfl (.slice (some ⟨w0.heap.size, 0, none⟩) 0 0) (0) ([]) rfl E1.out _ rfl k (ints (L.take k)) (HFT.out _ b1.out) (ints_one _) (by unfold maxLen; omega) (by omega) ?_
        intro v2 w2 hs2 ho2 hv2
        rw [Nat.zero_add, List.nil_append] at hs2
        have b2 := hide (b1.out.trans (ho2.below b1.out.size fun i hi => V1.out i hi))
        have E2 := hide hs2
        have V2 := hide (show ∀ g, v2.ownBlock = some g → w0.heap.size ≤ g from fun g hg => by
          rcases hv2 with e | e
          · exact V1.out g (by rw [← e]; exact hg)
          · rw [e] at hg
            cases hg
            exact b1.out.size)
        clear hs2 ho2 hv2
        refine hK _ _ (fun _ _ => HQ.out _ b2.out) ?_
        clear hK K
        try simp only [Act.put, List.setIfInBounds_toArray, List.set_cons_zero, List.set_cons_succ]
        refine wpAnyD_one (i := 11) (o := { dst := some 51, op := Op.call { callee := Callee.builtin Builtin.append, args := #[Operand.tmp 49, Operand.tmp 50], argTypes := #[71, 71] }, type := 71, pos := "ref.go:65", after := #[{ on := 9, ground := Ground.data }, { on := 10, ground := Ground.data }, { on := 9, ground := Ground.chain }], guard := none }) (by kernel_rfl) rfl (fun K hK => ?_)
        refine step_append_w (by rfl) (.tmp 49) (.tmp 50) 71 rfl 3 i0 _ 1 8 Tryd.underlying71 hi hz0 hz1 hz2 rfl v2 (k) (ints (L.take k)) rfl E2.out _ rfl m (ints X) (HMD.out _ b2.out) (ints_one _) (by unfold maxLen; omega) (by omega) ?_
        intro v3 w3 hs3 ho3 hv3
        have b3 := hide (b2.out.trans (ho3.below b2.out.size fun i hi => V2.out i hi))
        have E3 := hide hs3
        have V3 := hide (show ∀ g, v3.ownBlock = some g → w0.heap.size ≤ g from fun g hg => by
          rcases hv3 with e | e
          · exact V2.out g (by rw [← e]; exact hg)
          · rw [e] at hg
            cases hg
            exact b2.out.size)
        clear hs3 ho3 hv3
        refine hK _ _ (fun _ _ => HQ.out _ b3.out) ?_
        clear hK K
        try simp only [Act.put, List.setIfInBounds_toArray, List.set_cons_zero, List.set_cons_succ]
        refine wpAnyD_one (i := 19) (o := { dst := some 59, op := Op.call { callee := Callee.builtin Builtin.append, args := #[Operand.tmp 51, Operand.tmp 58], argTypes := #[71, 71] }, type := 71, pos := "ref.go:65", after := #[{ on := 11, ground := Ground.data }, { on := 18, ground := Ground.data }, { on := 11, ground := Ground.chain }], guard := none }) (by kernel_rfl) rfl (fun K hK => ?_)
        refine step_append_w (by rfl) (.tmp 51) (.tmp 58) 71 rfl 3 i0 _ 1 8 Tryd.underlying71 hi hz0 hz1 hz2 rfl v3 (k + m) (ints (L.take k) ++ ints X) rfl E3.out _ rfl (n - k) (ints (L.drop k)) (HBK.out _ b3.out) (ints_one _) (by unfold maxLen; omega) (by omega) ?_
        intro v4 w4 hs4 ho4 hv4
        have b4 := hide (b3.out.trans (ho4.below b3.out.size fun i hi => V3.out i hi))
        have E4 := hide hs4
        have V4 := hide (show ∀ g, v4.ownBlock = some g → w0.heap.size ≤ g from fun g hg => by
          rcases hv4 with e | e
          · exact V3.out g (by rw [← e]; exact hg)
          · rw [e] at hg
            cases hg
            exact b3.out.size)
        clear hs4 ho4 hv4
        refine hK _ _ (fun _ _ => HQ.out _ b4.out) ?_
        clear hK K
        try simp only [Act.put, List.setIfInBounds_toArray, List.set_cons_zero, List.set_cons_succ]
        have EF := hide (HFIN.out _ _ E4.out)
        obtain ⟨Ax, cx, hvx, _⟩ := id EF.out.form
        subst hvx
        refine wpAnyD_takeW (i := 20) (oi := { dst := some 60, op := Op.nilCheck (Operand.tmp 40), type := 0, pos := "ref.go:65", after := #[{ on := 0, ground := Ground.data }, { on := 0, ground := Ground.phase }, { on := 1, ground := Ground.phase }, { on := 2, ground := Ground.phase }, { on := 3, ground := Ground.phase }, { on := 4, ground := Ground.phase }, { on := 5, ground := Ground.phase }, { on := 6, ground := Ground.phase }, { on := 7, ground := Ground.phase }, { on := 8, ground := Ground.phase }, { on := 9, ground := Ground.phase }, { on := 10, ground := Ground.phase }, { on := 11, ground := Ground.phase }, { on := 12, ground := Ground.phase }, { on := 13, ground := Ground.phase }, { on := 14, ground := Ground.phase }, { on := 15, ground := Ground.phase }, { on := 16, ground := Ground.phase }, { on := 17, ground := Ground.phase }, { on := 18, ground := Ground.phase }, { on := 19, ground := Ground.phase }], guard := none }) (v := ?_) rfl (by kernel_rfl) (by kernel_rfl) (by kernel_rfl) (fun _ _ _ h => h) (Or.inl ⟨by rfl, ?_⟩) ?_
        rotate_left
        · intro w hSw
          clear hSw
          go_simp
          all_goals with_reducible rfl
        simp only [Act.put, List.setIfInBounds_toArray, List.set_cons_zero, List.set_cons_succ]
        refine wpAnyD_takeW (i := 21) (oi := { dst := some 61, op := Op.fieldAddr 75 (Operand.tmp 60) 0, type := 0, pos := "ref.go:65", after := #[{ on := 20, ground := Ground.data }, { on := 0, ground := Ground.phase }, { on := 1, ground := Ground.phase }, { on := 2, ground := Ground.phase }, { on := 3, ground := Ground.phase }, { on := 4, ground := Ground.phase }, { on := 5, ground := Ground.phase }, { on := 6, ground := Ground.phase }, { on := 7, ground := Ground.phase }, { on := 8, ground := Ground.phase }, { on := 9, ground := Ground.phase }, { on := 10, ground := Ground.phase }, { on := 11, ground := Ground.phase }, { on := 12, ground := Ground.phase }, { on := 13, ground := Ground.phase }, { on := 14, ground := Ground.phase }, { on := 15, ground := Ground.phase }, { on := 16, ground := Ground.phase }, { on := 17, ground := Ground.phase }, { on := 18, ground := Ground.phase }, { on := 19, ground := Ground.phase }], guard := none }) (v := ?_) rfl (by kernel_rfl) (by kernel_rfl) (by kernel_rfl) (fun _ _ _ h => h) (Or.inl ⟨by rfl, ?_⟩) ?_
        rotate_left
        · intro w hSw
          clear hSw
          go_simp
          all_goals with_reducible rfl
        simp only [Act.put, List.setIfInBounds_toArray, List.set_cons_zero, List.set_cons_succ]
        have fz : w4.frozen? ⟨rb, 0, none⟩ = false := (H5.out.below b4.out).blk.frozen 0
        have hS := HQ.out _ b4.out
        refine wpAnyD_one (i := 22) (o := { dst := none, op := Op.store 71 (Operand.tmp 61) (Operand.tmp 59), type := 0, pos := "ref.go:65", after := #[{ on := 21, ground := Ground.data }, { on := 19, ground := Ground.data }, { on := 19, ground := Ground.chain }, { on := 0, ground := Ground.phase }, { on := 1, ground := Ground.phase }, { on := 2, ground := Ground.phase }, { on := 3, ground := Ground.phase }, { on := 4, ground := Ground.phase }, { on := 5, ground := Ground.phase }, { on := 6, ground := Ground.phase }, { on := 7, ground := Ground.phase }, { on := 8, ground := Ground.phase }, { on := 9, ground := Ground.phase }, { on := 10, ground := Ground.phase }, { on := 11, ground := Ground.phase }, { on := 12, ground := Ground.phase }, { on := 13, ground := Ground.phase }, { on := 14, ground := Ground.phase }, { on := 15, ground := Ground.phase }, { on := 16, ground := Ground.phase }, { on := 17, ground := Ground.phase }, { on := 18, ground := Ground.phase }, { on := 19, ground := Ground.phase }], guard := none }) (by kernel_rfl) rfl (fun K hK => ?_)
        go_simp
        refine hK _ _ (fun h => by cases h) ?_
        clear hK K
        try simp only [Act.put, List.setIfInBounds_toArray, List.set_cons_zero, List.set_cons_succ]
        refine wpAnyD_done (by kernel_rfl) ?_ _
        go_wp2
        all_goals go_ret
        all_goals exact ⟨by rw [HERR.out]; rfl, _, H5.out.setn HNZ.out b4.out EF.out V4.out⟩

set_option maxRecDepth 100000 in
set_option maxHeartbeats 16000000 in
theorem rdel_any (h : RtAt W w rb v L R) (h6 : L.length ≤ 65536) (x y : Int) : Calls Tryd.prog 43 #[.pointer (some ⟨rb, 0, none⟩), .int .i64 x, .int .i64 y] w fun e w' => e = .returned (.int .i64 (delErr L x y)) ∧ ∃ v', RtAt W w' rb v' (delL L x y) R := by
  obtain ⟨A, c, hv, hin, hnc, hc, hA⟩ := h.open_ h6
  obtain ⟨n, hn⟩ : ∃ n, n = L.length := ⟨_, rfl⟩
  rw [← hn] at hv hin hnc h6
  subst hv
  have c0 := hin.c0
  have H := hide h
  have HL := hide hn.symm
  have HR := hide (right_any hin x y)
  cases hs : spanB L x y with
  | false =>
    have HE := hide (show delErr L x y = 3 ∧ delL L x y = L by unfold delErr delL; rw [hs]; exact ⟨rfl, rfl⟩)
    rw [hs] at HR
    clear h hin hn hA hs
    go_enter Tryd.func43, Tryd.ntmps43
    go_wp2_with fail
    refine Calls.mono HR.out ?_
    rintro r w2 ⟨rfl, rfl⟩
    go_wp2
    go_ret
    exact ⟨by rw [HE.out.1]; rfl, _, by rw [HE.out.2]; exact H.out⟩
  | true =>
    have hb : 1 ≤ x ∧ x ≤ y ∧ y ≤ (L.length : Int) + 1 := by simpa [spanB] using hs
    rw [← hn] at hb
    obtain ⟨i, rfl⟩ : ∃ i : Nat, x = (i : Int) + 1 := ⟨(x - 1).toNat, by omega⟩
    obtain ⟨j, rfl⟩ : ∃ j : Nat, y = (j : Int) + 1 := ⟨(y - 1).toNat, by omega⟩
    have HE := hide (show delErr L ((i : Int) + 1) ((j : Int) + 1) = 0 ∧ delL L ((i : Int) + 1) ((j : Int) + 1) = L.take i ++ L.drop j by
      unfold delErr delL
      rw [if_pos hs, if_pos hs, show ((i : Int) + 1 - 1).toNat = i by omega, show ((j : Int) + 1 - 1).toNat = j by omega]
      exact ⟨rfl, rfl⟩)
    rw [hs] at HR
    rw [HE.out.2]
    have hij : i ≤ j := by omega
    have hjn : j ≤ n := by omega
    obtain ⟨Z, hZ⟩ : ∃ Z, Z = L.take i ++ L.drop j := ⟨_, rfl⟩
    obtain ⟨N, hN⟩ : ∃ N, N = Z.length := ⟨_, rfl⟩
    have HFIN := hide (fun (w' : World) (v' : Value) (h : Sl w' 3 1 v' (i + (n - j)) (ints (L.take i) ++ ints (L.drop j))) => (show Sl w' 3 1 v' N (ints Z) by rw [hN, hZ]; exact fin_del (w := w') (v := v') HL.out hij hjn h))
    rw [← hZ]
    have HNZ := hide hN
    clear hZ hN
    have hw3 : IntKind.i64.wrap ((i : Int) + 1 - 1) = (i : Int) := by
      rw [show (i : Int) + 1 - 1 = (i : Int) by omega]
      exact IntWalk.i64_in _ (by omega)
    have hw4 : IntKind.i64.wrap ((j : Int) + 1 - 1) = (j : Int) := by
      rw [show (j : Int) + 1 - 1 = (j : Int) by omega]
      exact IntWalk.i64_in _ (by omega)
    have hw5 : IntKind.i64.wrap (i : Int) = (i : Int) := IntWalk.i64_in _ (by omega)
    have hw6 : IntKind.i64.wrap (j : Int) = (j : Int) := IntWalk.i64_in _ (by omega)
    have hw0 : IntKind.i64.wrap 0 = 0 := IntWalk.i64_in _ (by omega)
    unfold maxLen at hc
    clear h hin hn hs hb
    go_enter Tryd.func43, Tryd.ntmps43
    go_wp2_with fail
    refine Calls.mono HR.out ?_
    rintro r w2 ⟨rfl, rfl⟩
    go_wp2_with fail
    rcases hA with ⟨rfl, rfl⟩ | ⟨g, off, rfl⟩
    · obtain rfl : n = 0 := by omega
      obtain rfl : j = 0 := by omega
      obtain rfl : i = 0 := by omega
      have H5 := hide (H.out.below (Below.refl _ _).drew)
      refine wp_region_d (S := fun w' => w'.cell? ⟨rb, 0, none⟩ = some (.slice none 0 0)) (D := [20]) (by kernel_rfl) ?_
      change wpAnyD _ _ _ _ _ _ _ _ _ w.drew
      generalize w.drew = w0 at H5 ⊢
      have b0 := hide (Below.refl w0.heap.size w0)
      have HQ := hide (show ∀ w', Below w0.heap.size w0 w' → w'.cell? ⟨rb, 0, none⟩ = some (.slice none 0 0) from fun w' hb => by rw [(H5.out.below hb).blk.cell]; rfl)
      have HFT := hide (fun w' (_ : Below w0.heap.size w0 w') => rd_take0 (w := w') (L := L))
      have HBK := hide (fun w' (_ : Below w0.heap.size w0 w') => rd_drop0 (w := w') HL.out)
      obtain ⟨i0, hi, hz0, hz1, hz2⟩ := info_parts info_int
      have hS := HQ.out _ b0.out
      refine wpAnyD_takeW (i := 0) (oi := { dst := some 12, op := Op.move (Operand.tmp 0), type := 24, pos := "ref.go:74", after := #[], guard := none }) (v := ?_) rfl (by kernel_rfl) (by kernel_rfl) (by kernel_rfl) (fun _ _ _ h => h) (Or.inl ⟨by rfl, ?_⟩) ?_
      rotate_left
      · intro w hSw
        clear hSw
        go_simp
        all_goals with_reducible rfl
      simp only [Act.put, List.setIfInBounds_toArray, List.set_cons_zero, List.set_cons_succ]
      refine wpAnyD_takeW (i := 2) (oi := { dst := some 14, op := Op.move (Operand.tmp 0), type := 24, pos := "ref.go:74", after := #[], guard := none }) (v := ?_) rfl (by kernel_rfl) (by kernel_rfl) (by kernel_rfl) (fun _ _ _ h => h) (Or.inl ⟨by rfl, ?_⟩) ?_
      rotate_left
      · intro w hSw
        clear hSw
        go_simp
        all_goals with_reducible rfl
      simp only [Act.put, List.setIfInBounds_toArray, List.set_cons_zero, List.set_cons_succ]
      refine wpAnyD_takeW (i := 3) (oi := { dst := some 15, op := Op.nilCheck (Operand.tmp 14), type := 0, pos := "ref.go:74", after := #[{ on := 2, ground := Ground.data }], guard := none }) (v := ?_) rfl (by kernel_rfl) (by kernel_rfl) (by kernel_rfl) (fun _ _ _ h => h) (Or.inl ⟨by rfl, ?_⟩) ?_
      rotate_left
      · intro w hSw
        clear hSw
        go_simp
        all_goals with_reducible rfl
      simp only [Act.put, List.setIfInBounds_toArray, List.set_cons_zero, List.set_cons_succ]
      refine wpAnyD_takeW (i := 4) (oi := { dst := some 16, op := Op.fieldAddr 75 (Operand.tmp 15) 0, type := 0, pos := "ref.go:74", after := #[{ on := 3, ground := Ground.data }], guard := none }) (v := ?_) rfl (by kernel_rfl) (by kernel_rfl) (by kernel_rfl) (fun _ _ _ h => h) (Or.inl ⟨by rfl, ?_⟩) ?_
      rotate_left
      · intro w hSw
        clear hSw
        go_simp
        all_goals with_reducible rfl
      simp only [Act.put, List.setIfInBounds_toArray, List.set_cons_zero, List.set_cons_succ]
      refine wpAnyD_take (i := 5) (oi := { dst := some 17, op := Op.load 71 (Operand.tmp 16), type := 71, pos := "ref.go:74", after := #[{ on := 4, ground := Ground.data }], guard := none }) (v := ?_) rfl (by kernel_rfl) (by kernel_rfl) (by kernel_rfl) (by kernel_rfl) (by kernel_rfl) (fun _ _ _ h => h) (Or.inl ⟨by rfl, ?_⟩) hS ?_
      rotate_left
      · intro w hSw
        (try dsimp only at hSw)
        go_simp
        all_goals with_reducible rfl
      simp only [Act.put, List.setIfInBounds_toArray, List.set_cons_zero, List.set_cons_succ]
      refine wpAnyD_takeW (i := 6) (oi := { dst := some 18, op := Op.move (Operand.tmp 1), type := 3, pos := "ref.go:74", after := #[], guard := none }) (v := ?_) rfl (by kernel_rfl) (by kernel_rfl) (by kernel_rfl) (fun _ _ _ h => h) (Or.inl ⟨by rfl, ?_⟩) ?_
      rotate_left
      · intro w hSw
        clear hSw
        go_simp
        all_goals with_reducible rfl
      simp only [Act.put, List.setIfInBounds_toArray, List.set_cons_zero, List.set_cons_succ]
      refine wpAnyD_takeW (i := 7) (oi := { dst := some 19, op := Op.binOp BinOp.sub 3 (Operand.tmp 18) (Operand.const (Value.int IntKind.i64 1)) 3, type := 3, pos := "ref.go:74", after := #[{ on := 6, ground := Ground.data }], guard := none }) (v := ?_) rfl (by kernel_rfl) (by kernel_rfl) (by kernel_rfl) (fun _ _ _ h => h) (Or.inl ⟨by rfl, ?_⟩) ?_
      rotate_left
      · intro w hSw
        clear hSw
        go_simp
        all_goals with_reducible rfl
      simp only [Act.put, List.setIfInBounds_toArray, List.set_cons_zero, List.set_cons_succ]
      refine wpAnyD_takeW (i := 8) (oi := { dst := some 20, op := Op.slice 71 (Operand.tmp 17) none (some (Operand.tmp 19)) none, type := 71, pos := "ref.go:74", after := #[{ on := 5, ground := Ground.data }, { on := 7, ground := Ground.data }], guard := none }) (v := ?_) rfl (by kernel_rfl) (by kernel_rfl) (by kernel_rfl) (fun _ _ _ h => h) (Or.inl ⟨by rfl, ?_⟩) ?_
      rotate_left
      · intro w hSw
        clear hSw
        go_simp
        all_goals with_reducible rfl
      simp only [Act.put, List.setIfInBounds_toArray, List.set_cons_zero, List.set_cons_succ]
      refine wpAnyD_takeW (i := 10) (oi := { dst := some 22, op := Op.move (Operand.tmp 0), type := 24, pos := "ref.go:74", after := #[], guard := none }) (v := ?_) rfl (by kernel_rfl) (by kernel_rfl) (by kernel_rfl) (fun _ _ _ h => h) (Or.inl ⟨by rfl, ?_⟩) ?_
      rotate_left
      · intro w hSw
        clear hSw
        go_simp
        all_goals with_reducible rfl
      simp only [Act.put, List.setIfInBounds_toArray, List.set_cons_zero, List.set_cons_succ]
      refine wpAnyD_takeW (i := 11) (oi := { dst := some 23, op := Op.nilCheck (Operand.tmp 22), type := 0, pos := "ref.go:74", after := #[{ on := 10, ground := Ground.data }], guard := none }) (v := ?_) rfl (by kernel_rfl) (by kernel_rfl) (by kernel_rfl) (fun _ _ _ h => h) (Or.inl ⟨by rfl, ?_⟩) ?_
      rotate_left
      · intro w hSw
        clear hSw
        go_simp
        all_goals with_reducible rfl
      simp only [Act.put, List.setIfInBounds_toArray, List.set_cons_zero, List.set_cons_succ]
      refine wpAnyD_takeW (i := 12) (oi := { dst := some 24, op := Op.fieldAddr 75 (Operand.tmp 23) 0, type := 0, pos := "ref.go:74", after := #[{ on := 11, ground := Ground.data }], guard := none }) (v := ?_) rfl (by kernel_rfl) (by kernel_rfl) (by kernel_rfl) (fun _ _ _ h => h) (Or.inl ⟨by rfl, ?_⟩) ?_
      rotate_left
      · intro w hSw
        clear hSw
        go_simp
        all_goals with_reducible rfl
      simp only [Act.put, List.setIfInBounds_toArray, List.set_cons_zero, List.set_cons_succ]
      refine wpAnyD_take (i := 13) (oi := { dst := some 25, op := Op.load 71 (Operand.tmp 24), type := 71, pos := "ref.go:74", after := #[{ on := 12, ground := Ground.data }], guard := none }) (v := ?_) rfl (by kernel_rfl) (by kernel_rfl) (by kernel_rfl) (by kernel_rfl) (by kernel_rfl) (fun _ _ _ h => h) (Or.inl ⟨by rfl, ?_⟩) hS ?_
      rotate_left
      · intro w hSw
        (try dsimp only at hSw)
        go_simp
        all_goals with_reducible rfl
      simp only [Act.put, List.setIfInBounds_toArray, List.set_cons_zero, List.set_cons_succ]
      refine wpAnyD_takeW (i := 14) (oi := { dst := some 26, op := Op.move (Operand.tmp 2), type := 3, pos := "ref.go:74", after := #[], guard := none }) (v := ?_) rfl (by kernel_rfl) (by kernel_rfl) (by kernel_rfl) (fun _ _ _ h => h) (Or.inl ⟨by rfl, ?_⟩) ?_
      rotate_left
      · intro w hSw
        clear hSw
        go_simp
        all_goals with_reducible rfl
      simp only [Act.put, List.setIfInBounds_toArray, List.set_cons_zero, List.set_cons_succ]
      refine wpAnyD_takeW (i := 15) (oi := { dst := some 27, op := Op.binOp BinOp.sub 3 (Operand.tmp 26) (Operand.const (Value.int IntKind.i64 1)) 3, type := 3, pos := "ref.go:74", after := #[{ on := 14, ground := Ground.data }], guard := none }) (v := ?_) rfl (by kernel_rfl) (by kernel_rfl) (by kernel_rfl) (fun _ _ _ h => h) (Or.inl ⟨by rfl, ?_⟩) ?_
      rotate_left
      · intro w hSw
        clear hSw
        go_simp
        all_goals with_reducible rfl
      simp only [Act.put, List.setIfInBounds_toArray, List.set_cons_zero, List.set_cons_succ]
      refine wpAnyD_takeW (i := 16) (oi := { dst := some 28, op := Op.slice 71 (Operand.tmp 25) (some (Operand.tmp 27)) none none, type := 71, pos := "ref.go:74", after := #[{ on := 13, ground := Ground.data }, { on := 15, ground := Ground.data }], guard := none }) (v := ?_) rfl (by kernel_rfl) (by kernel_rfl) (by kernel_rfl) (fun _ _ _ h => h) (Or.inl ⟨by rfl, ?_⟩) ?_
      rotate_left
      · intro w hSw
        clear hSw
        go_simp
        all_goals with_reducible rfl
      simp only [Act.put, List.setIfInBounds_toArray, List.set_cons_zero, List.set_cons_succ]
      clear hS
      refine wpAnyD_one (i := 1) (o := { dst := some 13, op := Op.buildSlice 71 0 #[], type := 71, pos := "ref.go:74", after := #[], guard := none }) (by kernel_rfl) rfl (fun K hK => ?_)
      have b1 := hide (b0.out.alloc b0.out.size (.cells #[] 3))
      have E1 := hide (show Sl (w0.alloc (.cells #[] 3)) 3 1 (.slice (some ⟨w0.heap.size, 0, none⟩) 0 0) 0 [] from by simpa using (Sl.new w0 3 1 #[] 0 0 (Nat.le_refl _) (Nat.zero_le _) (Nat.le_refl _)))
      have V1 := hide (show ∀ g, (Value.slice (some ⟨w0.heap.size, 0, none⟩) 0 0).ownBlock = some g → w0.heap.size ≤ g from fun g hg => by
        cases hg
        exact Nat.le_refl _)
      go_simp
      refine hK _ _ (fun _ _ => HQ.out _ b1.out) ?_
      clear hK K
      try simp only [Act.put, List.setIfInBounds_toArray, List.set_cons_zero, List.set_cons_succ]
      refine wpAnyD_one (i := 9) (o := { dst := some 21, op := Op.call { callee := Callee.builtin Builtin.append, args := #[Operand.tmp 13, Operand.tmp 20], argTypes := #[71, 71] }, type := 71, pos := "ref.go:74", after := #[{ on := 1, ground := Ground.data }, { on := 8, ground := Ground.data }], guard := none }) (by kernel_rfl) rfl (fun K hK => ?_)
      refine step_append_w (by rfl) (.tmp 13) (.tmp 20) 71 rfl 3 i0 _ 1 8 Tryd.underlying71 hi hz0 hz1 hz2 rfl (.slice (some ⟨w0.heap.size, 0, none⟩) 0 0) (0) ([]) rfl E1.out _ rfl 0 (ints (L.take 0)) (HFT.out _ b1.out) (ints_one _) (by unfold maxLen; omega) (by omega) ?_
      intro v2 w2 hs2 ho2 hv2
      rw [Nat.zero_add, List.nil_append] at hs2
      have b2 := hide (b1.out.trans (ho2.below b1.out.size fun i hi => V1.out i hi))
      have E2 := hide hs2
      have V2 := hide (show ∀ g, v2.ownBlock = some g → w0.heap.size ≤ g from fun g hg => by
        rcases hv2 with e | e
        · exact V1.out g (by rw [← e]; exact hg)
        · rw [e] at hg
          cases hg
          exact b1.out.size)
      clear hs2 ho2 hv2
      refine hK _ _ (fun _ _ => HQ.out _ b2.out) ?_
      clear hK K
      try simp only [Act.put, List.setIfInBounds_toArray, List.set_cons_zero, List.set_cons_succ]
      refine wpAnyD_one (i := 17) (o := { dst := some 29, op := Op.call { callee := Callee.builtin Builtin.append, args := #[Operand.tmp 21, Operand.tmp 28], argTypes := #[71, 71] }, type := 71, pos := "ref.go:74", after := #[{ on := 9, ground := Ground.data }, { on := 16, ground := Ground.data }, { on := 9, ground := Ground.chain }], guard := none }) (by kernel_rfl) rfl (fun K hK => ?_)
      refine step_append_w (by rfl) (.tmp 21) (.tmp 28) 71 rfl 3 i0 _ 1 8 Tryd.underlying71 hi hz0 hz1 hz2 rfl v2 (0) (ints (L.take 0)) rfl E2.out _ rfl 0 (ints (L.drop 0)) (HBK.out _ b2.out) (ints_one _) (by unfold maxLen; omega) (by omega) ?_
      intro v3 w3 hs3 ho3 hv3
      have b3 := hide (b2.out.trans (ho3.below b2.out.size fun i hi => V2.out i hi))
      have E3 := hide hs3
      have V3 := hide (show ∀ g, v3.ownBlock = some g → w0.heap.size ≤ g from fun g hg => by
        rcases hv3 with e | e
        · exact V2.out g (by rw [← e]; exact hg)
        · rw [e] at hg
          cases hg
          exact b2.out.size)
      clear hs3 ho3 hv3
      refine hK _ _ (fun _ _ => HQ.out _ b3.out) ?_
      clear hK K
      try simp only [Act.put, List.setIfInBounds_toArray, List.set_cons_zero, List.set_cons_succ]
      have EF := hide (HFIN.out _ _ E3.out)
      obtain ⟨Ax, cx, hvx, _⟩ := id EF.out.form
      subst hvx
      refine wpAnyD_takeW (i := 18) (oi := { dst := some 30, op := Op.nilCheck (Operand.tmp 12), type := 0, pos := "ref.go:74", after := #[{ on := 0, ground := Ground.data }, { on := 0, ground := Ground.phase }, { on := 1, ground := Ground.phase }, { on := 2, ground := Ground.phase }, { on := 3, ground := Ground.phase }, { on := 4, ground := Ground.phase }, { on := 5, ground := Ground.phase }, { on := 6, ground := Ground.phase }, { on := 7, ground := Ground.phase }, { on := 8, ground := Ground.phase }, { on := 9, ground := Ground.phase }, { on := 10, ground := Ground.phase }, { on := 11, ground := Ground.phase }, { on := 12, ground := Ground.phase }, { on := 13, ground := Ground.phase }, { on := 14, ground := Ground.phase }, { on := 15, ground := Ground.phase }, { on := 16, ground := Ground.phase }, { on := 17, ground := Ground.phase }], guard := none }) (v := ?_) rfl (by kernel_rfl) (by kernel_rfl) (by kernel_rfl) (fun _ _ _ h => h) (Or.inl ⟨by rfl, ?_⟩) ?_
      rotate_left
      · intro w hSw
        clear hSw
        go_simp
        all_goals with_reducible rfl
      simp only [Act.put, List.setIfInBounds_toArray, List.set_cons_zero, List.set_cons_succ]
      refine wpAnyD_takeW (i := 19) (oi := { dst := some 31, op := Op.fieldAddr 75 (Operand.tmp 30) 0, type := 0, pos := "ref.go:74", after := #[{ on := 18, ground := Ground.data }, { on := 0, ground := Ground.phase }, { on := 1, ground := Ground.phase }, { on := 2, ground := Ground.phase }, { on := 3, ground := Ground.phase }, { on := 4, ground := Ground.phase }, { on := 5, ground := Ground.phase }, { on := 6, ground := Ground.phase }, { on := 7, ground := Ground.phase }, { on := 8, ground := Ground.phase }, { on := 9, ground := Ground.phase }, { on := 10, ground := Ground.phase }, { on := 11, ground := Ground.phase }, { on := 12, ground := Ground.phase }, { on := 13, ground := Ground.phase }, { on := 14, ground := Ground.phase }, { on := 15, ground := Ground.phase }, { on := 16, ground := Ground.phase }, { on := 17, ground := Ground.phase }], guard := none }) (v := ?_) rfl (by kernel_rfl) (by kernel_rfl) (by kernel_rfl) (fun _ _ _ h => h) (Or.inl ⟨by rfl, ?_⟩) ?_
      rotate_left
      · intro w hSw
        clear hSw
        go_simp
        all_goals with_reducible rfl
      simp only [Act.put, List.setIfInBounds_toArray, List.set_cons_zero, List.set_cons_succ]
      have fz : w3.frozen? ⟨rb, 0, none⟩ = false := (H5.out.below b3.out).blk.frozen 0
      have hS := HQ.out _ b3.out
      refine wpAnyD_one (i := 20) (o := { dst := none, op := Op.store 71 (Operand.tmp 31) (Operand.tmp 29), type := 0, pos := "ref.go:74", after := #[{ on := 19, ground := Ground.data }, { on := 17, ground := Ground.data }, { on := 17, ground := Ground.chain }, { on := 0, ground := Ground.phase }, { on := 1, ground := Ground.phase }, { on := 2, ground := Ground.phase }, { on := 3, ground := Ground.phase }, { on := 4, ground := Ground.phase }, { on := 5, ground := Ground.phase }, { on := 6, ground := Ground.phase }, { on := 7, ground := Ground.phase }, { on := 8, ground := Ground.phase }, { on := 9, ground := Ground.phase }, { on := 10, ground := Ground.phase }, { on := 11, ground := Ground.phase }, { on := 12, ground := Ground.phase }, { on := 13, ground := Ground.phase }, { on := 14, ground := Ground.phase }, { on := 15, ground := Ground.phase }, { on := 16, ground := Ground.phase }, { on := 17, ground := Ground.phase }], guard := none }) (by kernel_rfl) rfl (fun K hK => ?_)
      go_simp
      refine hK _ _ (fun h => by cases h) ?_
      clear hK K
      try simp only [Act.put, List.setIfInBounds_toArray, List.set_cons_zero, List.set_cons_succ]
      refine wpAnyD_done (by kernel_rfl) ?_ _
      go_wp2
      all_goals go_ret
      all_goals exact ⟨by rw [HE.out.1]; rfl, _, H5.out.setn HNZ.out b3.out EF.out V3.out⟩
    · have kb1 : (0 : Int) ≤ (i : Int) := by omega
      have kb2 : (i : Int) ≤ (c : Int) := by omega
      have kb3 : (i : Int) ≤ (n : Int) := by omega
      have kb4 : (n : Int) ≤ (c : Int) := by omega
      have kb5 : (0 : Int) ≤ (j : Int) := by omega
      have kb6 : (j : Int) ≤ (c : Int) := by omega
      have kb7 : (j : Int) ≤ (n : Int) := by omega
      have H5 := hide (H.out.below (Below.refl _ _).drew)
      refine wp_region_d (S := fun w' => w'.cell? ⟨rb, 0, none⟩ = some (.slice (some ⟨g, off, none⟩) n c)) (D := [20]) (by kernel_rfl) ?_
      change wpAnyD _ _ _ _ _ _ _ _ _ w.drew
      generalize w.drew = w0 at H5 ⊢
      have b0 := hide (Below.refl w0.heap.size w0)
      have HQ := hide (show ∀ w', Below w0.heap.size w0 w' → w'.cell? ⟨rb, 0, none⟩ = some (.slice (some ⟨g, off, none⟩) n c) from fun w' hb => by rw [(H5.out.below hb).blk.cell]; rfl)
      have HFT := hide (fun w' (hb : Below w0.heap.size w0 w') => rd_take (k := i) (by have h1 := (H5.out.sl.rd).belowF hb; rwa [HL.out] at h1) (by omega))
      have HBK := hide (fun w' (hb : Below w0.heap.size w0 w') => rd_drop (k := j) (by have h1 := (H5.out.sl.rd).belowF hb; rwa [HL.out] at h1) (by omega) hnc)
      obtain ⟨i0, hi, hz0, hz1, hz2⟩ := info_parts info_int
      have hS := HQ.out _ b0.out
      refine wpAnyD_takeW (i := 0) (oi := { dst := some 12, op := Op.move (Operand.tmp 0), type := 24, pos := "ref.go:74", after := #[], guard := none }) (v := ?_) rfl (by kernel_rfl) (by kernel_rfl) (by kernel_rfl) (fun _ _ _ h => h) (Or.inl ⟨by rfl, ?_⟩) ?_
      rotate_left
      · intro w hSw
        clear hSw
        go_simp
        all_goals with_reducible rfl
      simp only [Act.put, List.setIfInBounds_toArray, List.set_cons_zero, List.set_cons_succ]
      refine wpAnyD_takeW (i := 2) (oi := { dst := some 14, op := Op.move (Operand.tmp 0), type := 24, pos := "ref.go:74", after := #[], guard := none }) (v := ?_) rfl (by kernel_rfl) (by kernel_rfl) (by kernel_rfl) (fun _ _ _ h => h) (Or.inl ⟨by rfl, ?_⟩) ?_
      rotate_left
      · intro w hSw
        clear hSw
        go_simp
        all_goals with_reducible rfl
      simp only [Act.put, List.setIfInBounds_toArray, List.set_cons_zero, List.set_cons_succ]
      refine wpAnyD_takeW (i := 3) (oi := { dst := some 15, op := Op.nilCheck (Operand.tmp 14), type := 0, pos := "ref.go:74", after := #[{ on := 2, ground := Ground.data }], guard := none }) (v := ?_) rfl (by kernel_rfl) (by kernel_rfl) (by kernel_rfl) (fun _ _ _ h => h) (Or.inl ⟨by rfl, ?_⟩) ?_
      rotate_left
      · intro w hSw
        clear hSw
        go_simp
        all_goals with_reducible rfl
      simp only [Act.put, List.setIfInBounds_toArray, List.set_cons_zero, List.set_cons_succ]
      refine wpAnyD_takeW (i := 4) (oi := { dst := some 16, op := Op.fieldAddr 75 (Operand.tmp 15) 0, type := 0, pos := "ref.go:74", after := #[{ on := 3, ground := Ground.data }], guard := none }) (v := ?_) rfl (by kernel_rfl) (by kernel_rfl) (by kernel_rfl) (fun _ _ _ h => h) (Or.inl ⟨by rfl, ?_⟩) ?_
      rotate_left
      · intro w hSw
        clear hSw
        go_simp
        all_goals with_reducible rfl
      simp only [Act.put, List.setIfInBounds_toArray, List.set_cons_zero, List.set_cons_succ]
      refine wpAnyD_take (i := 5) (oi := { dst := some 17, op := Op.load 71 (Operand.tmp 16), type := 71, pos := "ref.go:74", after := #[{ on := 4, ground := Ground.data }], guard := none }) (v := ?_) rfl (by kernel_rfl) (by kernel_rfl) (by kernel_rfl) (by kernel_rfl) (by kernel_rfl) (fun _ _ _ h => h) (Or.inl ⟨by rfl, ?_⟩) hS ?_
      rotate_left
      · intro w hSw
        (try dsimp only at hSw)
        go_simp
        all_goals with_reducible rfl
      simp only [Act.put, List.setIfInBounds_toArray, List.set_cons_zero, List.set_cons_succ]
      refine wpAnyD_takeW (i := 6) (oi := { dst := some 18, op := Op.move (Operand.tmp 1), type := 3, pos := "ref.go:74", after := #[], guard := none }) (v := ?_) rfl (by kernel_rfl) (by kernel_rfl) (by kernel_rfl) (fun _ _ _ h => h) (Or.inl ⟨by rfl, ?_⟩) ?_
      rotate_left
      · intro w hSw
        clear hSw
        go_simp
        all_goals with_reducible rfl
      simp only [Act.put, List.setIfInBounds_toArray, List.set_cons_zero, List.set_cons_succ]
      refine wpAnyD_takeW (i := 7) (oi := { dst := some 19, op := Op.binOp BinOp.sub 3 (Operand.tmp 18) (Operand.const (Value.int IntKind.i64 1)) 3, type := 3, pos := "ref.go:74", after := #[{ on := 6, ground := Ground.data }], guard := none }) (v := ?_) rfl (by kernel_rfl) (by kernel_rfl) (by kernel_rfl) (fun _ _ _ h => h) (Or.inl ⟨by rfl, ?_⟩) ?_
      rotate_left
      · intro w hSw
        clear hSw
        go_simp
        all_goals with_reducible rfl
      simp only [Act.put, List.setIfInBounds_toArray, List.set_cons_zero, List.set_cons_succ]
      refine wpAnyD_takeW (i := 8) (oi := { dst := some 20, op := Op.slice 71 (Operand.tmp 17) none (some (Operand.tmp 19)) none, type := 71, pos := "ref.go:74", after := #[{ on := 5, ground := Ground.data }, { on := 7, ground := Ground.data }], guard := none }) (v := ?_) rfl (by kernel_rfl) (by kernel_rfl) (by kernel_rfl) (fun _ _ _ h => h) (Or.inl ⟨by rfl, ?_⟩) ?_
      rotate_left
      · intro w hSw
        clear hSw
        go_simp
        all_goals with_reducible rfl
      simp only [Act.put, List.setIfInBounds_toArray, List.set_cons_zero, List.set_cons_succ]
      refine wpAnyD_takeW (i := 10) (oi := { dst := some 22, op := Op.move (Operand.tmp 0), type := 24, pos := "ref.go:74", after := #[], guard := none }) (v := ?_) rfl (by kernel_rfl) (by kernel_rfl) (by kernel_rfl) (fun _ _ _ h => h) (Or.inl ⟨by rfl, ?_⟩) ?_
      rotate_left
      · intro w hSw
        clear hSw
        go_simp
        all_goals with_reducible rfl
      simp only [Act.put, List.setIfInBounds_toArray, List.set_cons_zero, List.set_cons_succ]
      refine wpAnyD_takeW (i := 11) (oi := { dst := some 23, op := Op.nilCheck (Operand.tmp 22), type := 0, pos := "ref.go:74", after := #[{ on := 10, ground := Ground.data }], guard := none }) (v := ?_) rfl (by kernel_rfl) (by kernel_rfl) (by kernel_rfl) (fun _ _ _ h => h) (Or.inl ⟨by rfl, ?_⟩) ?_
      rotate_left
      · intro w hSw
        clear hSw
        go_simp
        all_goals with_reducible rfl
      simp only [Act.put, List.setIfInBounds_toArray, List.set_cons_zero, List.set_cons_succ]
      refine wpAnyD_takeW (i := 12) (oi := { dst := some 24, op := Op.fieldAddr 75 (Operand.tmp 23) 0, type := 0, pos := "ref.go:74", after := #[{ on := 11, ground := Ground.data }], guard := none }) (v := ?_) rfl (by kernel_rfl) (by kernel_rfl) (by kernel_rfl) (fun _ _ _ h => h) (Or.inl ⟨by rfl, ?_⟩) ?_
      rotate_left
      · intro w hSw
        clear hSw
        go_simp
        all_goals with_reducible rfl
      simp only [Act.put, List.setIfInBounds_toArray, List.set_cons_zero, List.set_cons_succ]
      refine wpAnyD_take (i := 13) (oi := { dst := some 25, op := Op.load 71 (Operand.tmp 24), type := 71, pos := "ref.go:74", after := #[{ on := 12, ground := Ground.data }], guard := none }) (v := ?_) rfl (by kernel_rfl) (by kernel_rfl) (by kernel_rfl) (by kernel_rfl) (by kernel_rfl) (fun _ _ _ h => h) (Or.inl ⟨by rfl, ?_⟩) hS ?_
      rotate_left
      · intro w hSw
        (try dsimp only at hSw)
        go_simp
        all_goals with_reducible rfl
      simp only [Act.put, List.setIfInBounds_toArray, List.set_cons_zero, List.set_cons_succ]
      refine wpAnyD_takeW (i := 14) (oi := { dst := some 26, op := Op.move (Operand.tmp 2), type := 3, pos := "ref.go:74", after := #[], guard := none }) (v := ?_) rfl (by kernel_rfl) (by kernel_rfl) (by kernel_rfl) (fun _ _ _ h => h) (Or.inl ⟨by rfl, ?_⟩) ?_
      rotate_left
      · intro w hSw
        clear hSw
        go_simp
        all_goals with_reducible rfl
      simp only [Act.put, List.setIfInBounds_toArray, List.set_cons_zero, List.set_cons_succ]
      refine wpAnyD_takeW (i := 15) (oi := { dst := some 27, op := Op.binOp BinOp.sub 3 (Operand.tmp 26) (Operand.const (Value.int IntKind.i64 1)) 3, type := 3, pos := "ref.go:74", after := #[{ on := 14, ground := Ground.data }], guard := none }) (v := ?_) rfl (by kernel_rfl) (by kernel_rfl) (by kernel_rfl) (fun _ _ _ h => h) (Or.inl ⟨by rfl, ?_⟩) ?_
      rotate_left
      · intro w hSw
        clear hSw
        go_simp
        all_goals with_reducible rfl
      simp only [Act.put, List.setIfInBounds_toArray, List.set_cons_zero, List.set_cons_succ]
      refine wpAnyD_takeW (i := 16) (oi := { dst := some 28, op := Op.slice 71 (Operand.tmp 25) (some (Operand.tmp 27)) none none, type := 71, pos := "ref.go:74", after := #[{ on := 13, ground := Ground.data }, { on := 15, ground := Ground.data }], guard := none }) (v := ?_) rfl (by kernel_rfl) (by kernel_rfl) (by kernel_rfl) (fun _ _ _ h => h) (Or.inl ⟨by rfl, ?_⟩) ?_
      rotate_left
      · intro w hSw
        clear hSw
        go_simp
        all_goals with_reducible rfl
      simp only [Act.put, List.setIfInBounds_toArray, List.set_cons_zero, List.set_cons_succ]
      clear hS
      refine wpAnyD_one (i := 1) (o := { dst := some 13, op := Op.buildSlice 71 0 #[], type := 71, pos := "ref.go:74", after := #[], guard := none }) (by kernel_rfl) rfl (fun K hK => ?_)
      have b1 := hide (b0.out.alloc b0.out.size (.cells #[] 3))
      have E1 := hide (show Sl (w0.alloc (.cells #[] 3)) 3 1 (.slice (some ⟨w0.heap.size, 0, none⟩) 0 0) 0 [] from by simpa using (Sl.new w0 3 1 #[] 0 0 (Nat.le_refl _) (Nat.zero_le _) (Nat.le_refl _)))
      have V1 := hide (show ∀ g, (Value.slice (some ⟨w0.heap.size, 0, none⟩) 0 0).ownBlock = some g → w0.heap.size ≤ g from fun g hg => by
        cases hg
        exact Nat.le_refl _)
      go_simp
      refine hK _ _ (fun _ _ => HQ.out _ b1.out) ?_
      clear hK K
      try simp only [Act.put, List.setIfInBounds_toArray, List.set_cons_zero, List.set_cons_succ]
      refine wpAnyD_one (i := 9) (o := { dst := some 21, op := Op.call { callee := Callee.builtin Builtin.append, args := #[Operand.tmp 13, Operand.tmp 20], argTypes := #[71, 71] }, type := 71, pos := "ref.go:74", after := #[{ on := 1, ground := Ground.data }, { on := 8, ground := Ground.data }], guard := none }) (by kernel_rfl) rfl (fun K hK => ?_)
      refine step_append_w (by rfl) (.tmp 13) (.tmp 20) 71 rfl 3 i0 _ 1 8 Tryd.underlying71 hi hz0 hz1 hz2 rfl (.slice (some ⟨w0.heap.size, 0, none⟩) 0 0) (0) ([]) rfl E1.out _ rfl i (ints (L.take i)) (HFT.out _ b1.out) (ints_one _) (by unfold maxLen; omega) (by omega) ?_
      intro v2 w2 hs2 ho2 hv2
      rw [Nat.zero_add, List.nil_append] at hs2
      have b2 := hide (b1.out.trans (ho2.below b1.out.size fun i hi => V1.out i hi))
      have E2 := hide hs2
      have V2 := hide (show ∀ g, v2.ownBlock = some g → w0.heap.size ≤ g from fun g hg => by
        rcases hv2 with e | e
        · exact V1.out g (by rw [← e]; exact hg)
        · rw [e] at hg
          cases hg
          exact b1.out.size)
      clear hs2 ho2 hv2
      refine hK _ _ (fun _ _ => HQ.out _ b2.out) ?_
      clear hK K
      try simp only [Act.put, List.setIfInBounds_toArray, List.set_cons_zero, List.set_cons_succ]
      refine wpAnyD_one (i := 17) (o := { dst := some 29, op := Op.call { callee := Callee.builtin Builtin.append, args := #[Operand.tmp 21, Operand.tmp 28], argTypes := #[71, 71] }, type := 71, pos := "ref.go:74", after := #[{ on := 9, ground := Ground.data }, { on := 16, ground := Ground.data }, { on := 9, ground := Ground.chain }], guard := none }) (by kernel_rfl) rfl (fun K hK => ?_)
      refine step_append_w (by rfl) (.tmp 21) (.tmp 28) 71 rfl 3 i0 _ 1 8 Tryd.underlying71 hi hz0 hz1 hz2 rfl v2 (i) (ints (L.take i)) rfl E2.out _ rfl (n - j) (ints (L.drop j)) (HBK.out _ b2.out) (ints_one _) (by unfold maxLen; omega) (by omega) ?_
      intro v3 w3 hs3 ho3 hv3
      have b3 := hide (b2.out.trans (ho3.below b2.out.size fun i hi => V2.out i hi))
      have E3 := hide hs3
      have V3 := hide (show ∀ g, v3.ownBlock = some g → w0.heap.size ≤ g from fun g hg => by
        rcases hv3 with e | e
        · exact V2.out g (by rw [← e]; exact hg)
        · rw [e] at hg
          cases hg
          exact b2.out.size)
      clear hs3 ho3 hv3
      refine hK _ _ (fun _ _ => HQ.out _ b3.out) ?_
      clear hK K
      try simp only [Act.put, List.setIfInBounds_toArray, List.set_cons_zero, List.set_cons_succ]
      have EF := hide (HFIN.out _ _ E3.out)
      obtain ⟨Ax, cx, hvx, _⟩ := id EF.out.form
      subst hvx
      refine wpAnyD_takeW (i := 18) (oi := { dst := some 30, op := Op.nilCheck (Operand.tmp 12), type := 0, pos := "ref.go:74", after := #[{ on := 0, ground := Ground.data }, { on := 0, ground := Ground.phase }, { on := 1, ground := Ground.phase }, { on := 2, ground := Ground.phase }, { on := 3, ground := Ground.phase }, { on := 4, ground := Ground.phase }, { on := 5, ground := Ground.phase }, { on := 6, ground := Ground.phase }, { on := 7, ground := Ground.phase }, { on := 8, ground := Ground.phase }, { on := 9, ground := Ground.phase }, { on := 10, ground := Ground.phase }, { on := 11, ground := Ground.phase }, { on := 12, ground := Ground.phase }, { on := 13, ground := Ground.phase }, { on := 14, ground := Ground.phase }, { on := 15, ground := Ground.phase }, { on := 16, ground := Ground.phase }, { on := 17, ground := Ground.phase }], guard := none }) (v := ?_) rfl (by kernel_rfl) (by kernel_rfl) (by kernel_rfl) (fun _ _ _ h => h) (Or.inl ⟨by rfl, ?_⟩) ?_
      rotate_left
      · intro w hSw
        clear hSw
        go_simp
        all_goals with_reducible rfl
      simp only [Act.put, List.setIfInBounds_toArray, List.set_cons_zero, List.set_cons_succ]
      refine wpAnyD_takeW (i := 19) (oi := { dst := some 31, op := Op.fieldAddr 75 (Operand.tmp 30) 0, type := 0, pos := "ref.go:74", after := #[{ on := 18, ground := Ground.data }, { on := 0, ground := Ground.phase }, { on := 1, ground := Ground.phase }, { on := 2, ground := Ground.phase }, { on := 3, ground := Ground.phase }, { on := 4, ground := Ground.phase }, { on := 5, ground := Ground.phase }, { on := 6, ground := Ground.phase }, { on := 7, ground := Ground.phase }, { on := 8, ground := Ground.phase }, { on := 9, ground := Ground.phase }, { on := 10, ground := Ground.phase }, { on := 11, ground := Ground.phase }, { on := 12, ground := Ground.phase }, { on := 13, ground := Ground.phase }, { on := 14, ground := Ground.phase }, { on := 15, ground := Ground.phase }, { on := 16, ground := Ground.phase }, { on := 17, ground := Ground.phase }], guard := none }) (v := ?_) rfl (by kernel_rfl) (by kernel_rfl) (by kernel_rfl) (fun _ _ _ h => h) (Or.inl ⟨by rfl, ?_⟩) ?_
      rotate_left
      · intro w hSw
        clear hSw
        go_simp
        all_goals with_reducible rfl
      simp only [Act.put, List.setIfInBounds_toArray, List.set_cons_zero, List.set_cons_succ]
      have fz : w3.frozen? ⟨rb, 0, none⟩ = false := (H5.out.below b3.out).blk.frozen 0
      have hS := HQ.out _ b3.out
      refine wpAnyD_one (i := 20) (o := { dst := none, op := Op.store 71 (Operand.tmp 31) (Operand.tmp 29), type := 0, pos := "ref.go:74", after := #[{ on := 19, ground := Ground.data }, { on := 17, ground := Ground.data }, { on := 17, ground := Ground.chain }, { on := 0, ground := Ground.phase }, { on := 1, ground := Ground.phase }, { on := 2, ground := Ground.phase }, { on := 3, ground := Ground.phase }, { on := 4, ground := Ground.phase }, { on := 5, ground := Ground.phase }, { on := 6, ground := Ground.phase }, { on := 7, ground := Ground.phase }, { on := 8, ground := Ground.phase }, { on := 9, ground := Ground.phase }, { on := 10, ground := Ground.phase }, { on := 11, ground := Ground.phase }, { on := 12, ground := Ground.phase }, { on := 13, ground := Ground.phase }, { on := 14, ground := Ground.phase }, { on := 15, ground := Ground.phase }, { on := 16, ground := Ground.phase }, { on := 17, ground := Ground.phase }], guard := none }) (by kernel_rfl) rfl (fun K hK => ?_)
      go_simp
      refine hK _ _ (fun h => by cases h) ?_
      clear hK K
      try simp only [Act.put, List.setIfInBounds_toArray, List.set_cons_zero, List.set_cons_succ]
      refine wpAnyD_done (by kernel_rfl) ?_ _
      go_wp2
      all_goals go_ret
      all_goals exact ⟨by rw [HE.out.1]; rfl, _, H5.out.setn HNZ.out b3.out EF.out V3.out⟩

end
end Go.Proofs.YtghcmakhfdnimaaDoor

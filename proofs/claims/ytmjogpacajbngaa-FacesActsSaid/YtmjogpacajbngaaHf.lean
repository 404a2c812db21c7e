/- The reference: Drop. No condition but those written. -/
import Derived.Test.YtmjogpacajbngaaHe
namespace Go.Proofs.Ytmjogpacajbngaa
open Go.RowKit

theorem delF_at {L : Fm} {n : ByteArray} {b : Att} : ∀ {i : Nat}, plc (L.map (·.1)) n = some i → L[i]? = some (n, b) → delF L n = L.take i ++ L.drop (i + 1) := by
  induction L with
  | nil => intro i _ h; cases h
  | cons x L ih =>
    intro i hp hx
    unfold delF
    by_cases e : n = x.1
    · rw [if_pos ((MapKept.bytes_beq _ _).2 e)]
      have hi : i = 0 := by
        unfold plc at hp
        rw [List.map_cons, List.findIdx?_cons, ← e, beq_ba] at hp
        simpa using hp.symm
      subst hi
      rfl
    · rw [if_neg (by rw [bne_ba e]; decide)]
      have hp2 : plc ((x :: L).map (·.1)) n = (plc (L.map (·.1)) n).map (· + 1) := by
        unfold plc
        rw [List.map_cons, List.findIdx?_cons, bne_ba (fun h => e h.symm)]
        rfl
      rw [hp2] at hp
      obtain ⟨j, hj, rfl⟩ := Option.map_eq_some_iff.1 hp
      rw [ih hj (by simpa using hx)]
      rfl
theorem fin_namesD {L : Fm} {i n0 : Nat} (hl : L.length = n0) (hi : i < n0) {w : World} {v : Value} (h : Sl w 9 1 v (i + (n0 - (i + 1))) (strs ((L.map (·.1)).take i) ++ strs ((L.map (·.1)).drop (i + 1)))) : Sl w 9 1 v ((L.take i ++ L.drop (i + 1)).map (·.1)).length (strs ((L.take i ++ L.drop (i + 1)).map (·.1))) := by
  have e1 : ((L.take i ++ L.drop (i + 1)).map (·.1)).length = i + (n0 - (i + 1)) := by
    simp only [List.length_map, List.length_append, List.length_take, List.length_drop, hl]
    omega
  have e2 : strs ((L.take i ++ L.drop (i + 1)).map (·.1)) = strs ((L.map (·.1)).take i) ++ strs ((L.map (·.1)).drop (i + 1)) := by
    simp [strs, List.map_take, List.map_drop]
  rw [e1, e2]
  exact h
theorem fin_attsD {L : Fm} {i n0 : Nat} (hl : L.length = n0) (hi : i < n0) {w : World} {v : Value} (h : Sl w 23 6 v (i + (n0 - (i + 1))) (rows Att.cells ((L.map (·.2)).take i) ++ rows Att.cells ((L.map (·.2)).drop (i + 1)))) : Sl w 23 6 v ((L.take i ++ L.drop (i + 1)).map (·.2)).length (rows Att.cells ((L.take i ++ L.drop (i + 1)).map (·.2))) := by
  have e1 : ((L.take i ++ L.drop (i + 1)).map (·.2)).length = i + (n0 - (i + 1)) := by
    simp only [List.length_map, List.length_append, List.length_take, List.length_drop, hl]
    omega
  have e2 : rows Att.cells ((L.take i ++ L.drop (i + 1)).map (·.2)) = rows Att.cells ((L.map (·.2)).take i) ++ rows Att.cells ((L.map (·.2)).drop (i + 1)) := by
    simp [rows, List.map_take, List.map_drop, List.flatMap_append]
  rw [e1, e2]
  exact h
set_option maxRecDepth 100000 in
set_option maxRecDepth 100000 in
set_option maxHeartbeats 16000000 in
theorem rdrop_any {W w : World} {rb n0 c d : Nat} {A B : Option Addr} {L : Fm} {R : Heap} (h : RfAt W w rb (.slice A n0 c) (L.map (·.1)) (.slice B n0 d) (L.map (·.2)) R) (hG : GoodF L) (n : ByteArray) :
    Calls Try.prog 22 #[.pointer (some ⟨rb, 0, none⟩), .string n] w fun e w' => e = .returned (.int .i64 (dropE L n)) ∧ ∃ vN' vA', RfAt W w' rb vN' ((dropN L n).map (·.1)) vA' ((dropN L n).map (·.2)) R := by
  have hlen : L.length = n0 := by
    have := h.slN.1
    obtain ⟨A', c', e, _⟩ := h.slN.form
    injection e with _ e2 _
    rw [e2, List.length_map]
  have hn2 : n0 ≤ 256 := hlen ▸ hG.le
  have H1 := hide h
  have HL := hide hlen
  have HPL := hide (place_any h.blk (by have := h.slN.rd; rwa [List.length_map, hlen] at this) n (by omega))
  have HNE := hide (fun (k : Int) (h1 : dropE L n = k) (h2 : k ≠ 0) => (show dropN L n = L by
    unfold dropN
    rw [h1, if_neg h2]))
  clear h hlen hG
  go_enter Try.func22, Try.ntmps22
  go_wp2_with fail
  refine Calls.mono HPL.out ?_
  rintro r w2 ⟨rfl, rfl⟩
  clear HPL
  rcases plc_look L n with ⟨i, b, h1, h2, h3⟩ | ⟨h1, h2⟩
  · rw [plcZ_some h1]
    have hil : i < n0 := by
      have := (List.getElem?_eq_some_iff.1 h2).1
      rw [HL.out] at this
      exact this
    have q3 : decide ((i : Int) < 0) = false := decide_eq_false (by omega)
    have HLK := hide (show ¬ (look L n).isSome = false by rw [h3]; simp)
    have HDL := hide (delF_at h1 h2)
    clear h1 h2 h3
    by_cases hd : n = dflt
    · have z1 : (n.toList == [100, 101, 102, 97, 117, 108, 116]) = true := by
        have e : dflt.toList = [100, 101, 102, 97, 117, 108, 116] := by first | rfl | (simp [go_sem]; done) | kernel_rfl
        rw [← e, toList_beq, hd]
        exact beq_ba _
      have HE := hide (show dropE L n = 10 by
        unfold dropE
        rw [if_neg HLK.out, if_pos hd])
      clear hd
      go_wp2
      go_ret
      exact ⟨by rw [HE.out]; rfl, _, _, by rw [HNE.out _ HE.out (by decide)]; exact H1.out⟩
    · have z1 : (n.toList == [100, 101, 102, 97, 117, 108, 116]) = false := by
        have e : dflt.toList = [100, 101, 102, 97, 117, 108, 116] := by first | rfl | (simp [go_sem]; done) | kernel_rfl
        rw [← e, toList_beq]
        exact bne_ba hd
      have HD := hide hd
      clear hd
      have c1 : w.cell? ⟨rb, 1, none⟩ = some (.slice B n0 d) := by rw [H1.out.blk.cell]; rfl
      go_upto_block 1 with fail
      go_cut [] (fun wx => dropE L n = 0 ∧ wx = w)
      case first =>
        go_wp2_with fail
        go_loopw [6] (fun t wr => ∃ k : Nat, t = .int .i64 (k : Int) ∧ k ≤ n0 ∧ (∀ (j : Nat) (x : ByteArray × Att), j < k → L[j]? = some x → (x.2.inh == n) = false) ∧ wr = w) (fun t _ => n0 - (intOf t).toNat)
        case atStart => exact ⟨0, rfl, Nat.zero_le _, fun i x hi => by omega, rfl⟩
        case round =>
          obtain ⟨k, rfl, hk, hall, rfl⟩ := hrel
          have HA := hide hall
          clear hall
          by_cases hlt : k < n0
          · have y1 : decide (k < n0) = true := by simpa using hlt
            have y2 : decide ((k : Int) < (n0 : Int)) = true := decide_eq_true (by omega)
            obtain ⟨x, hx⟩ : ∃ x, L[k]? = some x := ⟨_, List.getElem?_eq_getElem (by rw [HL.out]; exact hlt)⟩
            obtain ⟨g, off, rfl, p0, p1, p2, p3, p4, p5⟩ := rd_att (by have := H1.out.slA.rd; rwa [List.length_map, HL.out] at this) (i := k) (a := x.2) (by rw [List.getElem?_map, hx]; rfl)
            have HLT := hide hlt
            cases he : x.2.inh == n with
            | true =>
              have z2 : (x.2.inh.toList == n.toList) = true := by rw [toList_beq]; exact he
              have HE := hide (show dropE L n = 9 by
                unfold dropE
                rw [if_neg HLK.out, if_neg HD.out, if_pos (List.any_eq_true.2 ⟨x, List.mem_of_getElem? hx, he⟩)])
              clear he hx
              go_wp2
              go_ret
              exact ⟨by rw [HE.out]; rfl, _, _, by rw [HNE.out _ HE.out (by decide)]; exact H1.out⟩
            | false =>
              have z2 : (x.2.inh.toList == n.toList) = false := by rw [toList_beq]; exact he
              have HN := hide (show ∀ (j : Nat) (x : ByteArray × Att), j < k + 1 → L[j]? = some x → (x.2.inh == n) = false from fun j y hj hy => by
                by_cases e : j = k
                · rw [e, hx, Option.some.injEq] at hy
                  rw [← hy]
                  exact he
                · exact HA.out j y (by omega) hy)
              clear he hx
              go_wp2
              go_roundw
              case rel => exact ⟨k + 1, by go_num, HLT.out, HN.out, by trivial⟩
              case measure => have := HLT.out; simp [intOf]; omega
          · have y1 : decide (k < n0) = false := by simpa using hlt
            have y2 : decide ((k : Int) < (n0 : Int)) = false := decide_eq_false (by omega)
            have HE := hide (show dropE L n = 0 by
              unfold dropE
              rw [if_neg HLK.out, if_neg HD.out, if_neg (fun hc => by
                obtain ⟨x, hx, he⟩ := List.any_eq_true.1 hc
                obtain ⟨j, hj⟩ := List.getElem?_of_mem hx
                have := HA.out j x (by have := (List.getElem?_eq_some_iff.1 hj).1; rw [HL.out] at this; omega) hj
                rw [this] at he
                cases he)])
            clear HA hk hlt
            go_wp2
            go_meet
            exact ⟨HE.out, rfl⟩
      case rest =>
          obtain ⟨hE, rfl⟩ := hcut
          have HE := hide hE
          have HDN := hide (show dropN L n = L.take i ++ L.drop (i + 1) by
            unfold dropN
            rw [HE.out, if_pos rfl]
            exact HDL.out)
          clear hE
          obtain ⟨y0, hy0⟩ : ∃ y, L[i]? = some y := ⟨_, List.getElem?_eq_getElem (by rw [HL.out]; exact hil)⟩
          obtain ⟨g, off, rfl, _⟩ : ∃ g off, A = some ⟨g, off, none⟩ ∧ True := by
            have := H1.out.slN.rd
            rw [List.length_map, HL.out] at this
            obtain ⟨g, off, e, _⟩ := rd_str this (k := i) (s := y0.1) (by rw [List.getElem?_map, hy0]; rfl)
            exact ⟨g, off, e, trivial⟩
          obtain ⟨gb, off2, rfl, _⟩ := rd_att (by have := H1.out.slA.rd; rwa [List.length_map, HL.out] at this) (i := i) (a := y0.2) (by rw [List.getElem?_map, hy0]; rfl)
          have hnc : n0 ≤ c := by
            obtain ⟨_, _, e, hh, _⟩ := H1.out.slN.form
            injection e with _ e2 e3
            rw [List.length_map, HL.out] at hh
            omega
          have hnd : n0 ≤ d := by
            obtain ⟨_, _, e, hh, _⟩ := H1.out.slA.form
            injection e with _ e2 e3
            rw [List.length_map, HL.out] at hh
            omega
          have kb1 : (0 : Int) ≤ (i : Int) := by omega
          have kb2 : (i : Int) ≤ (c : Int) := by omega
          have kb3 : (i : Int) + 1 ≤ (n0 : Int) := by omega
          have kb4 : (n0 : Int) ≤ (c : Int) := by omega
          have kb5 : (i : Int) ≤ (d : Int) := by omega
          have kb6 : (n0 : Int) ≤ (d : Int) := by omega
          have kb7 : (0 : Int) ≤ (i : Int) + 1 := by omega
          have kb8 : IntKind.i64.wrap ((i : Int) + 1) = (i : Int) + 1 := IntWalk.i64_in _ (by omega)
          have kb9 : ((i : Int) + 1).toNat = i + 1 := by omega
          have hi1 : i + 1 ≤ n0 := hil
          clear hy0 c1
          have HFIN := hide (fun (w' : World) (v' : Value) => fin_namesD (w := w') (v := v') (L := L) (i := i) (n0 := n0) HL.out hil)
          go_upto_region 11 with fail
          go_cut [] (fun wx => ∃ vN, RfAt W wx rb vN ((L.take i ++ L.drop (i + 1)).map (·.1)) (.slice (some ⟨gb, off2, none⟩) n0 d) (L.map (·.2)) R)
          case first =>
            have H5 := hide (H1.out.below (Below.refl _ _).drew)
            refine wp_region_d (S := fun w' => w'.cell? ⟨rb, 0, none⟩ = some (.slice (some ⟨g, off, none⟩) n0 c)) (D := [19]) (by kernel_rfl) ?_
            change wpAnyD _ _ _ _ _ _ _ _ _ wc.drew
            generalize wc.drew = w0 at H5 ⊢
            have b0 := hide (Below.refl w0.heap.size w0)
            have HQ := hide (show ∀ w', Below w0.heap.size w0 w' → w'.cell? ⟨rb, 0, none⟩ = some (.slice (some ⟨g, off, none⟩) n0 c) from fun w' hb => by rw [(H5.out.below hb).blk.cell]; rfl)
            have HFT := hide (show ∀ w', Below w0.heap.size w0 w' → Rd w' (.slice (some ⟨g, off, none⟩) i c) 1 i (strs ((L.map (·.1)).take i)) from fun w' hb => by
              have h1 := (H5.out.slN.rd).belowF hb
              rw [List.length_map, HL.out] at h1
              rw [← strs_take]
              exact h1.front (Nat.le_of_lt hil) c)
            have HBK := hide (show ∀ w', Below w0.heap.size w0 w' → Rd w' (.slice (if c = i + 1 then some ⟨g, off, none⟩ else some ⟨g, off + (i + 1), none⟩) (n0 - (i + 1)) (c - (i + 1))) 1 (n0 - (i + 1)) (strs ((L.map (·.1)).drop (i + 1))) from fun w' hb => by
              have h1 := (H5.out.slN.rd).belowF hb
              rw [List.length_map, HL.out] at h1
              rw [← strs_drop]
              have h2 := h1.back_if hi1 hnc (c - (i + 1))
              rw [Nat.mul_one] at h2 ⊢
              exact h2)
            obtain ⟨i0, hi, hz0, hz1, hz2⟩ := info_parts info_str
            have hS := HQ.out _ b0.out
            refine wpAnyD_takeW (i := 0) (oi := { dst := some 35, op := Op.move (Operand.tmp 0), type := 32, pos := "ref.go:125", after := #[], guard := none }) (v := ?_) rfl (by kernel_rfl) (by kernel_rfl) (by kernel_rfl) (fun _ _ _ h => h) (Or.inl ⟨by rfl, ?_⟩) ?_
            rotate_left
            · intro w hSw
              clear hSw
              go_simp
              all_goals with_reducible rfl
            simp only [Act.put, List.setIfInBounds_toArray, List.set_cons_zero, List.set_cons_succ]
            refine wpAnyD_takeW (i := 2) (oi := { dst := some 37, op := Op.move (Operand.tmp 0), type := 32, pos := "ref.go:125", after := #[], guard := none }) (v := ?_) rfl (by kernel_rfl) (by kernel_rfl) (by kernel_rfl) (fun _ _ _ h => h) (Or.inl ⟨by rfl, ?_⟩) ?_
            rotate_left
            · intro w hSw
              clear hSw
              go_simp
              all_goals with_reducible rfl
            simp only [Act.put, List.setIfInBounds_toArray, List.set_cons_zero, List.set_cons_succ]
            refine wpAnyD_takeW (i := 3) (oi := { dst := some 38, op := Op.nilCheck (Operand.tmp 37), type := 0, pos := "ref.go:125", after := #[{ on := 2, ground := Ground.data }], guard := none }) (v := ?_) rfl (by kernel_rfl) (by kernel_rfl) (by kernel_rfl) (fun _ _ _ h => h) (Or.inl ⟨by rfl, ?_⟩) ?_
            rotate_left
            · intro w hSw
              clear hSw
              go_simp
              all_goals with_reducible rfl
            simp only [Act.put, List.setIfInBounds_toArray, List.set_cons_zero, List.set_cons_succ]
            refine wpAnyD_takeW (i := 4) (oi := { dst := some 39, op := Op.fieldAddr 43 (Operand.tmp 38) 0, type := 0, pos := "ref.go:125", after := #[{ on := 3, ground := Ground.data }], guard := none }) (v := ?_) rfl (by kernel_rfl) (by kernel_rfl) (by kernel_rfl) (fun _ _ _ h => h) (Or.inl ⟨by rfl, ?_⟩) ?_
            rotate_left
            · intro w hSw
              clear hSw
              go_simp
              all_goals with_reducible rfl
            simp only [Act.put, List.setIfInBounds_toArray, List.set_cons_zero, List.set_cons_succ]
            refine wpAnyD_take (i := 5) (oi := { dst := some 40, op := Op.load 39 (Operand.tmp 39), type := 39, pos := "ref.go:125", after := #[{ on := 4, ground := Ground.data }], guard := none }) (v := ?_) rfl (by kernel_rfl) (by kernel_rfl) (by kernel_rfl) (by kernel_rfl) (by kernel_rfl) (fun _ _ _ h => h) (Or.inl ⟨by rfl, ?_⟩) hS ?_
            rotate_left
            · intro w hSw
              (try dsimp only at hSw)
              (try go_split_ands)
              go_simp
              all_goals with_reducible rfl
            simp only [Act.put, List.setIfInBounds_toArray, List.set_cons_zero, List.set_cons_succ]
            refine wpAnyD_takeW (i := 6) (oi := { dst := some 41, op := Op.move (Operand.tmp 5), type := 3, pos := "ref.go:125", after := #[], guard := none }) (v := ?_) rfl (by kernel_rfl) (by kernel_rfl) (by kernel_rfl) (fun _ _ _ h => h) (Or.inl ⟨by rfl, ?_⟩) ?_
            rotate_left
            · intro w hSw
              clear hSw
              go_simp
              all_goals with_reducible rfl
            simp only [Act.put, List.setIfInBounds_toArray, List.set_cons_zero, List.set_cons_succ]
            refine wpAnyD_takeW (i := 7) (oi := { dst := some 42, op := Op.slice 39 (Operand.tmp 40) none (some (Operand.tmp 41)) none, type := 39, pos := "ref.go:125", after := #[{ on := 5, ground := Ground.data }, { on := 6, ground := Ground.data }], guard := none }) (v := ?_) rfl (by kernel_rfl) (by kernel_rfl) (by kernel_rfl) (fun _ _ _ h => h) (Or.inl ⟨by rfl, ?_⟩) ?_
            rotate_left
            · intro w hSw
              clear hSw
              go_simp
              all_goals with_reducible rfl
            simp only [Act.put, List.setIfInBounds_toArray, List.set_cons_zero, List.set_cons_succ]
            refine wpAnyD_takeW (i := 9) (oi := { dst := some 44, op := Op.move (Operand.tmp 0), type := 32, pos := "ref.go:125", after := #[], guard := none }) (v := ?_) rfl (by kernel_rfl) (by kernel_rfl) (by kernel_rfl) (fun _ _ _ h => h) (Or.inl ⟨by rfl, ?_⟩) ?_
            rotate_left
            · intro w hSw
              clear hSw
              go_simp
              all_goals with_reducible rfl
            simp only [Act.put, List.setIfInBounds_toArray, List.set_cons_zero, List.set_cons_succ]
            refine wpAnyD_takeW (i := 10) (oi := { dst := some 45, op := Op.nilCheck (Operand.tmp 44), type := 0, pos := "ref.go:125", after := #[{ on := 9, ground := Ground.data }], guard := none }) (v := ?_) rfl (by kernel_rfl) (by kernel_rfl) (by kernel_rfl) (fun _ _ _ h => h) (Or.inl ⟨by rfl, ?_⟩) ?_
            rotate_left
            · intro w hSw
              clear hSw
              go_simp
              all_goals with_reducible rfl
            simp only [Act.put, List.setIfInBounds_toArray, List.set_cons_zero, List.set_cons_succ]
            refine wpAnyD_takeW (i := 11) (oi := { dst := some 46, op := Op.fieldAddr 43 (Operand.tmp 45) 0, type := 0, pos := "ref.go:125", after := #[{ on := 10, ground := Ground.data }], guard := none }) (v := ?_) rfl (by kernel_rfl) (by kernel_rfl) (by kernel_rfl) (fun _ _ _ h => h) (Or.inl ⟨by rfl, ?_⟩) ?_
            rotate_left
            · intro w hSw
              clear hSw
              go_simp
              all_goals with_reducible rfl
            simp only [Act.put, List.setIfInBounds_toArray, List.set_cons_zero, List.set_cons_succ]
            refine wpAnyD_take (i := 12) (oi := { dst := some 47, op := Op.load 39 (Operand.tmp 46), type := 39, pos := "ref.go:125", after := #[{ on := 11, ground := Ground.data }], guard := none }) (v := ?_) rfl (by kernel_rfl) (by kernel_rfl) (by kernel_rfl) (by kernel_rfl) (by kernel_rfl) (fun _ _ _ h => h) (Or.inl ⟨by rfl, ?_⟩) hS ?_
            rotate_left
            · intro w hSw
              (try dsimp only at hSw)
              (try go_split_ands)
              go_simp
              all_goals with_reducible rfl
            simp only [Act.put, List.setIfInBounds_toArray, List.set_cons_zero, List.set_cons_succ]
            refine wpAnyD_takeW (i := 13) (oi := { dst := some 48, op := Op.move (Operand.tmp 5), type := 3, pos := "ref.go:125", after := #[], guard := none }) (v := ?_) rfl (by kernel_rfl) (by kernel_rfl) (by kernel_rfl) (fun _ _ _ h => h) (Or.inl ⟨by rfl, ?_⟩) ?_
            rotate_left
            · intro w hSw
              clear hSw
              go_simp
              all_goals with_reducible rfl
            simp only [Act.put, List.setIfInBounds_toArray, List.set_cons_zero, List.set_cons_succ]
            refine wpAnyD_takeW (i := 14) (oi := { dst := some 49, op := Op.binOp BinOp.add 3 (Operand.tmp 48) (Operand.const (Value.int IntKind.i64 1)) 3, type := 3, pos := "ref.go:125", after := #[{ on := 13, ground := Ground.data }], guard := none }) (v := ?_) rfl (by kernel_rfl) (by kernel_rfl) (by kernel_rfl) (fun _ _ _ h => h) (Or.inl ⟨by rfl, ?_⟩) ?_
            rotate_left
            · intro w hSw
              clear hSw
              go_simp
              all_goals with_reducible rfl
            simp only [Act.put, List.setIfInBounds_toArray, List.set_cons_zero, List.set_cons_succ]
            refine wpAnyD_takeW (i := 15) (oi := { dst := some 50, op := Op.slice 39 (Operand.tmp 47) (some (Operand.tmp 49)) none none, type := 39, pos := "ref.go:125", after := #[{ on := 12, ground := Ground.data }, { on := 14, ground := Ground.data }], guard := none }) (v := ?_) rfl (by kernel_rfl) (by kernel_rfl) (by kernel_rfl) (fun _ _ _ h => h) (Or.inl ⟨by rfl, ?_⟩) ?_
            rotate_left
            · intro w hSw
              clear hSw
              go_simp
              all_goals with_reducible rfl
            simp only [Act.put, List.setIfInBounds_toArray, List.set_cons_zero, List.set_cons_succ]
            clear hS
            refine wpAnyD_one (i := 1) (o := { dst := some 36, op := Op.buildSlice 39 0 #[], type := 39, pos := "ref.go:125", after := #[], guard := none }) (by kernel_rfl) rfl (fun K hK => ?_)
            have b1 := hide (b0.out.alloc b0.out.size (.cells #[] 9))
            have E1 := hide (show Sl (w0.alloc (.cells #[] 9)) 9 1 (.slice (some ⟨w0.heap.size, 0, none⟩) 0 0) 0 [] by simpa only [World.size_alloc] using (show Sl (w0.alloc (.cells #[] 9)) 9 1 (.slice (some ⟨w0.heap.size, 0, none⟩) 0 0) 0 [] from Sl.new w0 9 1 #[] 0 0 (Nat.le_refl _) (Nat.zero_le _) (Nat.le_refl _)))
            have V1 := hide (show ∀ g, (Value.slice (some ⟨w0.heap.size, 0, none⟩) 0 0).ownBlock = some g → w0.heap.size ≤ g from fun g hg => by
              cases hg
              have := b0.out.size
              simpa only [World.size_alloc] using this)
            go_simp
            refine hK _ _ (fun _ _ => HQ.out _ b1.out) ?_
            clear hK K
            try simp only [Act.put, List.setIfInBounds_toArray, List.set_cons_zero, List.set_cons_succ]
            refine wpAnyD_one (i := 8) (o := { dst := some 43, op := Op.call { callee := Callee.builtin Builtin.append, args := #[Operand.tmp 36, Operand.tmp 42], argTypes := #[39, 39] }, type := 39, pos := "ref.go:125", after := #[{ on := 1, ground := Ground.data }, { on := 7, ground := Ground.data }], guard := none }) (by kernel_rfl) rfl (fun K hK => ?_)
            refine step_append_w (by rfl) (.tmp 36) (.tmp 42) 39 rfl 9 i0 _ 1 16 Try.underlying39 hi hz0 hz1 hz2 rfl (.slice (some ⟨w0.heap.size, 0, none⟩) 0 0) (0) ([]) rfl E1.out _ rfl i (strs ((L.map (fun x : ByteArray × Att => x.1)).take i)) (HFT.out _ b1.out) (strs_one _) (by unfold maxLen; omega) (by omega) ?_
            intro v2 w2 hs2 ho2 hv2
            rw [Nat.zero_add, List.nil_append] at hs2
            have b2 := hide (b1.out.trans (ho2.below b1.out.size fun i hi => V1.out i hi))
            have E2 := hide hs2
            have V2 := hide (show ∀ g, v2.ownBlock = some g → w0.heap.size ≤ g from fun g hg => by
              rcases hv2 with e | e
              · exact V1.out g (by rw [← e]; exact hg)
              · rw [e] at hg
                cases hg
                exact b1.out.size)
            clear hs2 ho2 hv2
            refine hK _ _ (fun _ _ => HQ.out _ b2.out) ?_
            clear hK K
            try simp only [Act.put, List.setIfInBounds_toArray, List.set_cons_zero, List.set_cons_succ]
            refine wpAnyD_one (i := 16) (o := { dst := some 51, op := Op.call { callee := Callee.builtin Builtin.append, args := #[Operand.tmp 43, Operand.tmp 50], argTypes := #[39, 39] }, type := 39, pos := "ref.go:125", after := #[{ on := 8, ground := Ground.data }, { on := 15, ground := Ground.data }, { on := 8, ground := Ground.chain }], guard := none }) (by kernel_rfl) rfl (fun K hK => ?_)
            refine step_append_w (by rfl) (.tmp 43) (.tmp 50) 39 rfl 9 i0 _ 1 16 Try.underlying39 hi hz0 hz1 hz2 rfl v2 (i) (strs ((L.map (fun x : ByteArray × Att => x.1)).take i)) rfl E2.out _ rfl (n0 - (i + 1)) (strs ((L.map (fun x : ByteArray × Att => x.1)).drop (i + 1))) (HBK.out _ b2.out) (strs_one _) (by unfold maxLen; omega) (by omega) ?_
            intro v3 w3 hs3 ho3 hv3
            have b3 := hide (b2.out.trans (ho3.below b2.out.size fun i hi => V2.out i hi))
            have E3 := hide hs3
            have V3 := hide (show ∀ g, v3.ownBlock = some g → w0.heap.size ≤ g from fun g hg => by
              rcases hv3 with e | e
              · exact V2.out g (by rw [← e]; exact hg)
              · rw [e] at hg
                cases hg
                exact b2.out.size)
            clear hs3 ho3 hv3
            refine hK _ _ (fun _ _ => HQ.out _ b3.out) ?_
            clear hK K
            try simp only [Act.put, List.setIfInBounds_toArray, List.set_cons_zero, List.set_cons_succ]
            obtain ⟨Ax, cx, hvx, _⟩ := id E3.out.form
            subst hvx
            refine wpAnyD_takeW (i := 17) (oi := { dst := some 52, op := Op.nilCheck (Operand.tmp 35), type := 0, pos := "ref.go:125", after := #[{ on := 0, ground := Ground.data }, { on := 0, ground := Ground.phase }, { on := 1, ground := Ground.phase }, { on := 2, ground := Ground.phase }, { on := 3, ground := Ground.phase }, { on := 4, ground := Ground.phase }, { on := 5, ground := Ground.phase }, { on := 6, ground := Ground.phase }, { on := 7, ground := Ground.phase }, { on := 8, ground := Ground.phase }, { on := 9, ground := Ground.phase }, { on := 10, ground := Ground.phase }, { on := 11, ground := Ground.phase }, { on := 12, ground := Ground.phase }, { on := 13, ground := Ground.phase }, { on := 14, ground := Ground.phase }, { on := 15, ground := Ground.phase }, { on := 16, ground := Ground.phase }], guard := none }) (v := ?_) rfl (by kernel_rfl) (by kernel_rfl) (by kernel_rfl) (fun _ _ _ h => h) (Or.inl ⟨by rfl, ?_⟩) ?_
            rotate_left
            · intro w hSw
              clear hSw
              go_simp
              all_goals with_reducible rfl
            simp only [Act.put, List.setIfInBounds_toArray, List.set_cons_zero, List.set_cons_succ]
            refine wpAnyD_takeW (i := 18) (oi := { dst := some 53, op := Op.fieldAddr 43 (Operand.tmp 52) 0, type := 0, pos := "ref.go:125", after := #[{ on := 17, ground := Ground.data }, { on := 0, ground := Ground.phase }, { on := 1, ground := Ground.phase }, { on := 2, ground := Ground.phase }, { on := 3, ground := Ground.phase }, { on := 4, ground := Ground.phase }, { on := 5, ground := Ground.phase }, { on := 6, ground := Ground.phase }, { on := 7, ground := Ground.phase }, { on := 8, ground := Ground.phase }, { on := 9, ground := Ground.phase }, { on := 10, ground := Ground.phase }, { on := 11, ground := Ground.phase }, { on := 12, ground := Ground.phase }, { on := 13, ground := Ground.phase }, { on := 14, ground := Ground.phase }, { on := 15, ground := Ground.phase }, { on := 16, ground := Ground.phase }], guard := none }) (v := ?_) rfl (by kernel_rfl) (by kernel_rfl) (by kernel_rfl) (fun _ _ _ h => h) (Or.inl ⟨by rfl, ?_⟩) ?_
            rotate_left
            · intro w hSw
              clear hSw
              go_simp
              all_goals with_reducible rfl
            simp only [Act.put, List.setIfInBounds_toArray, List.set_cons_zero, List.set_cons_succ]
            have fz : w3.frozen? ⟨rb, 0, none⟩ = false := (H5.out.below b3.out).blk.frozen 0
            have hS := HQ.out _ b3.out
            refine wpAnyD_one (i := 19) (o := { dst := none, op := Op.store 39 (Operand.tmp 53) (Operand.tmp 51), type := 0, pos := "ref.go:125", after := #[{ on := 18, ground := Ground.data }, { on := 16, ground := Ground.data }, { on := 16, ground := Ground.chain }, { on := 0, ground := Ground.phase }, { on := 1, ground := Ground.phase }, { on := 2, ground := Ground.phase }, { on := 3, ground := Ground.phase }, { on := 4, ground := Ground.phase }, { on := 5, ground := Ground.phase }, { on := 6, ground := Ground.phase }, { on := 7, ground := Ground.phase }, { on := 8, ground := Ground.phase }, { on := 9, ground := Ground.phase }, { on := 10, ground := Ground.phase }, { on := 11, ground := Ground.phase }, { on := 12, ground := Ground.phase }, { on := 13, ground := Ground.phase }, { on := 14, ground := Ground.phase }, { on := 15, ground := Ground.phase }, { on := 16, ground := Ground.phase }], guard := none }) (by kernel_rfl) rfl (fun K hK => ?_)
            go_simp
            refine hK _ _ (fun h => by cases h) ?_
            clear hK K
            try simp only [Act.put, List.setIfInBounds_toArray, List.set_cons_zero, List.set_cons_succ]
            refine wpAnyD_done (by kernel_rfl) ?_ _
            go_wp2_with fail
            all_goals go_meet
            all_goals exact ⟨_, H5.out.setN b3.out (HFIN.out _ _ E3.out) V3.out⟩
          case rest =>
            obtain ⟨vN, h6⟩ := hcut
            have H6 := hide h6
            clear h6 H1 HFIN
            have HFIN := hide (fun (w' : World) (v' : Value) => fin_attsD (w := w') (v := v') (L := L) (i := i) (n0 := n0) HL.out hil)
            go_wp2_with fail
            have H5 := hide (H6.out.below (Below.refl _ _).drew)
            refine wp_region_d (S := fun w' => w'.cell? ⟨rb, 1, none⟩ = some (.slice (some ⟨gb, off2, none⟩) n0 d)) (D := [19]) (by kernel_rfl) ?_
            change wpAnyD _ _ _ _ _ _ _ _ _ wc.drew
            generalize wc.drew = w0 at H5 ⊢
            have b0 := hide (Below.refl w0.heap.size w0)
            have HQ := hide (show ∀ w', Below w0.heap.size w0 w' → w'.cell? ⟨rb, 1, none⟩ = some (.slice (some ⟨gb, off2, none⟩) n0 d) from fun w' hb => by rw [(H5.out.below hb).blk.cell]; rfl)
            have HFT := hide (show ∀ w', Below w0.heap.size w0 w' → Rd w' (.slice (some ⟨gb, off2, none⟩) i d) 6 i (rows Att.cells ((L.map (·.2)).take i)) from fun w' hb => by
              have h1 := (H5.out.slA.rd).belowF hb
              rw [List.length_map, HL.out] at h1
              rw [← rows_take att_len]
              exact h1.front (Nat.le_of_lt hil) d)
            have HBK := hide (show ∀ w', Below w0.heap.size w0 w' → Rd w' (.slice (if d = i + 1 then some ⟨gb, off2, none⟩ else some ⟨gb, off2 + (i + 1) * 6, none⟩) (n0 - (i + 1)) (d - (i + 1))) 6 (n0 - (i + 1)) (rows Att.cells ((L.map (·.2)).drop (i + 1))) from fun w' hb => by
              have h1 := (H5.out.slA.rd).belowF hb
              rw [List.length_map, HL.out] at h1
              rw [← rows_drop att_len]
              exact h1.back_if hi1 hnd (d - (i + 1)))
            obtain ⟨i0, hi, hz0, hz1, hz2⟩ := info_parts info_att
            have hS := HQ.out _ b0.out
            refine wpAnyD_takeW (i := 0) (oi := { dst := some 54, op := Op.move (Operand.tmp 0), type := 32, pos := "ref.go:126", after := #[], guard := none }) (v := ?_) rfl (by kernel_rfl) (by kernel_rfl) (by kernel_rfl) (fun _ _ _ h => h) (Or.inl ⟨by rfl, ?_⟩) ?_
            rotate_left
            · intro w hSw
              clear hSw
              go_simp
              all_goals with_reducible rfl
            simp only [Act.put, List.setIfInBounds_toArray, List.set_cons_zero, List.set_cons_succ]
            refine wpAnyD_takeW (i := 2) (oi := { dst := some 56, op := Op.move (Operand.tmp 0), type := 32, pos := "ref.go:126", after := #[], guard := none }) (v := ?_) rfl (by kernel_rfl) (by kernel_rfl) (by kernel_rfl) (fun _ _ _ h => h) (Or.inl ⟨by rfl, ?_⟩) ?_
            rotate_left
            · intro w hSw
              clear hSw
              go_simp
              all_goals with_reducible rfl
            simp only [Act.put, List.setIfInBounds_toArray, List.set_cons_zero, List.set_cons_succ]
            refine wpAnyD_takeW (i := 3) (oi := { dst := some 57, op := Op.nilCheck (Operand.tmp 56), type := 0, pos := "ref.go:126", after := #[{ on := 2, ground := Ground.data }], guard := none }) (v := ?_) rfl (by kernel_rfl) (by kernel_rfl) (by kernel_rfl) (fun _ _ _ h => h) (Or.inl ⟨by rfl, ?_⟩) ?_
            rotate_left
            · intro w hSw
              clear hSw
              go_simp
              all_goals with_reducible rfl
            simp only [Act.put, List.setIfInBounds_toArray, List.set_cons_zero, List.set_cons_succ]
            refine wpAnyD_takeW (i := 4) (oi := { dst := some 58, op := Op.fieldAddr 43 (Operand.tmp 57) 1, type := 0, pos := "ref.go:126", after := #[{ on := 3, ground := Ground.data }], guard := none }) (v := ?_) rfl (by kernel_rfl) (by kernel_rfl) (by kernel_rfl) (fun _ _ _ h => h) (Or.inl ⟨by rfl, ?_⟩) ?_
            rotate_left
            · intro w hSw
              clear hSw
              go_simp
              all_goals with_reducible rfl
            simp only [Act.put, List.setIfInBounds_toArray, List.set_cons_zero, List.set_cons_succ]
            refine wpAnyD_take (i := 5) (oi := { dst := some 59, op := Op.load 41 (Operand.tmp 58), type := 41, pos := "ref.go:126", after := #[{ on := 4, ground := Ground.data }], guard := none }) (v := ?_) rfl (by kernel_rfl) (by kernel_rfl) (by kernel_rfl) (by kernel_rfl) (by kernel_rfl) (fun _ _ _ h => h) (Or.inl ⟨by rfl, ?_⟩) hS ?_
            rotate_left
            · intro w hSw
              (try dsimp only at hSw)
              (try go_split_ands)
              go_simp
              all_goals with_reducible rfl
            simp only [Act.put, List.setIfInBounds_toArray, List.set_cons_zero, List.set_cons_succ]
            refine wpAnyD_takeW (i := 6) (oi := { dst := some 60, op := Op.move (Operand.tmp 5), type := 3, pos := "ref.go:126", after := #[], guard := none }) (v := ?_) rfl (by kernel_rfl) (by kernel_rfl) (by kernel_rfl) (fun _ _ _ h => h) (Or.inl ⟨by rfl, ?_⟩) ?_
            rotate_left
            · intro w hSw
              clear hSw
              go_simp
              all_goals with_reducible rfl
            simp only [Act.put, List.setIfInBounds_toArray, List.set_cons_zero, List.set_cons_succ]
            refine wpAnyD_takeW (i := 7) (oi := { dst := some 61, op := Op.slice 41 (Operand.tmp 59) none (some (Operand.tmp 60)) none, type := 41, pos := "ref.go:126", after := #[{ on := 5, ground := Ground.data }, { on := 6, ground := Ground.data }], guard := none }) (v := ?_) rfl (by kernel_rfl) (by kernel_rfl) (by kernel_rfl) (fun _ _ _ h => h) (Or.inl ⟨by rfl, ?_⟩) ?_
            rotate_left
            · intro w hSw
              clear hSw
              go_simp
              all_goals with_reducible rfl
            simp only [Act.put, List.setIfInBounds_toArray, List.set_cons_zero, List.set_cons_succ]
            refine wpAnyD_takeW (i := 9) (oi := { dst := some 63, op := Op.move (Operand.tmp 0), type := 32, pos := "ref.go:126", after := #[], guard := none }) (v := ?_) rfl (by kernel_rfl) (by kernel_rfl) (by kernel_rfl) (fun _ _ _ h => h) (Or.inl ⟨by rfl, ?_⟩) ?_
            rotate_left
            · intro w hSw
              clear hSw
              go_simp
              all_goals with_reducible rfl
            simp only [Act.put, List.setIfInBounds_toArray, List.set_cons_zero, List.set_cons_succ]
            refine wpAnyD_takeW (i := 10) (oi := { dst := some 64, op := Op.nilCheck (Operand.tmp 63), type := 0, pos := "ref.go:126", after := #[{ on := 9, ground := Ground.data }], guard := none }) (v := ?_) rfl (by kernel_rfl) (by kernel_rfl) (by kernel_rfl) (fun _ _ _ h => h) (Or.inl ⟨by rfl, ?_⟩) ?_
            rotate_left
            · intro w hSw
              clear hSw
              go_simp
              all_goals with_reducible rfl
            simp only [Act.put, List.setIfInBounds_toArray, List.set_cons_zero, List.set_cons_succ]
            refine wpAnyD_takeW (i := 11) (oi := { dst := some 65, op := Op.fieldAddr 43 (Operand.tmp 64) 1, type := 0, pos := "ref.go:126", after := #[{ on := 10, ground := Ground.data }], guard := none }) (v := ?_) rfl (by kernel_rfl) (by kernel_rfl) (by kernel_rfl) (fun _ _ _ h => h) (Or.inl ⟨by rfl, ?_⟩) ?_
            rotate_left
            · intro w hSw
              clear hSw
              go_simp
              all_goals with_reducible rfl
            simp only [Act.put, List.setIfInBounds_toArray, List.set_cons_zero, List.set_cons_succ]
            refine wpAnyD_take (i := 12) (oi := { dst := some 66, op := Op.load 41 (Operand.tmp 65), type := 41, pos := "ref.go:126", after := #[{ on := 11, ground := Ground.data }], guard := none }) (v := ?_) rfl (by kernel_rfl) (by kernel_rfl) (by kernel_rfl) (by kernel_rfl) (by kernel_rfl) (fun _ _ _ h => h) (Or.inl ⟨by rfl, ?_⟩) hS ?_
            rotate_left
            · intro w hSw
              (try dsimp only at hSw)
              (try go_split_ands)
              go_simp
              all_goals with_reducible rfl
            simp only [Act.put, List.setIfInBounds_toArray, List.set_cons_zero, List.set_cons_succ]
            refine wpAnyD_takeW (i := 13) (oi := { dst := some 67, op := Op.move (Operand.tmp 5), type := 3, pos := "ref.go:126", after := #[], guard := none }) (v := ?_) rfl (by kernel_rfl) (by kernel_rfl) (by kernel_rfl) (fun _ _ _ h => h) (Or.inl ⟨by rfl, ?_⟩) ?_
            rotate_left
            · intro w hSw
              clear hSw
              go_simp
              all_goals with_reducible rfl
            simp only [Act.put, List.setIfInBounds_toArray, List.set_cons_zero, List.set_cons_succ]
            refine wpAnyD_takeW (i := 14) (oi := { dst := some 68, op := Op.binOp BinOp.add 3 (Operand.tmp 67) (Operand.const (Value.int IntKind.i64 1)) 3, type := 3, pos := "ref.go:126", after := #[{ on := 13, ground := Ground.data }], guard := none }) (v := ?_) rfl (by kernel_rfl) (by kernel_rfl) (by kernel_rfl) (fun _ _ _ h => h) (Or.inl ⟨by rfl, ?_⟩) ?_
            rotate_left
            · intro w hSw
              clear hSw
              go_simp
              all_goals with_reducible rfl
            simp only [Act.put, List.setIfInBounds_toArray, List.set_cons_zero, List.set_cons_succ]
            refine wpAnyD_takeW (i := 15) (oi := { dst := some 69, op := Op.slice 41 (Operand.tmp 66) (some (Operand.tmp 68)) none none, type := 41, pos := "ref.go:126", after := #[{ on := 12, ground := Ground.data }, { on := 14, ground := Ground.data }], guard := none }) (v := ?_) rfl (by kernel_rfl) (by kernel_rfl) (by kernel_rfl) (fun _ _ _ h => h) (Or.inl ⟨by rfl, ?_⟩) ?_
            rotate_left
            · intro w hSw
              clear hSw
              go_simp
              all_goals with_reducible rfl
            simp only [Act.put, List.setIfInBounds_toArray, List.set_cons_zero, List.set_cons_succ]
            clear hS
            refine wpAnyD_one (i := 1) (o := { dst := some 55, op := Op.buildSlice 41 0 #[], type := 41, pos := "ref.go:126", after := #[], guard := none }) (by kernel_rfl) rfl (fun K hK => ?_)
            have b1 := hide (b0.out.alloc b0.out.size (.cells #[] 23))
            have E1 := hide (show Sl (w0.alloc (.cells #[] 23)) 23 6 (.slice (some ⟨w0.heap.size, 0, none⟩) 0 0) 0 [] by simpa only [World.size_alloc] using (show Sl (w0.alloc (.cells #[] 23)) 23 6 (.slice (some ⟨w0.heap.size, 0, none⟩) 0 0) 0 [] from Sl.new w0 23 6 #[] 0 0 (Nat.le_refl _) (Nat.zero_le _) (Nat.le_refl _)))
            have V1 := hide (show ∀ g, (Value.slice (some ⟨w0.heap.size, 0, none⟩) 0 0).ownBlock = some g → w0.heap.size ≤ g from fun g hg => by
              cases hg
              have := b0.out.size
              simpa only [World.size_alloc] using this)
            go_simp
            refine hK _ _ (fun _ _ => HQ.out _ b1.out) ?_
            clear hK K
            try simp only [Act.put, List.setIfInBounds_toArray, List.set_cons_zero, List.set_cons_succ]
            refine wpAnyD_one (i := 8) (o := { dst := some 62, op := Op.call { callee := Callee.builtin Builtin.append, args := #[Operand.tmp 55, Operand.tmp 61], argTypes := #[41, 41] }, type := 41, pos := "ref.go:126", after := #[{ on := 1, ground := Ground.data }, { on := 7, ground := Ground.data }], guard := none }) (by kernel_rfl) rfl (fun K hK => ?_)
            refine step_append_w (by rfl) (.tmp 55) (.tmp 61) 41 rfl 23 i0 _ 6 56 Try.underlying41 hi hz0 hz1 hz2 rfl (.slice (some ⟨w0.heap.size, 0, none⟩) 0 0) (0) ([]) rfl E1.out _ rfl i (rows Att.cells ((L.map (fun x : ByteArray × Att => x.2)).take i)) (HFT.out _ b1.out) (att_one _) (by unfold maxLen; omega) (by omega) ?_
            intro v2 w2 hs2 ho2 hv2
            rw [Nat.zero_add, List.nil_append] at hs2
            have b2 := hide (b1.out.trans (ho2.below b1.out.size fun i hi => V1.out i hi))
            have E2 := hide hs2
            have V2 := hide (show ∀ g, v2.ownBlock = some g → w0.heap.size ≤ g from fun g hg => by
              rcases hv2 with e | e
              · exact V1.out g (by rw [← e]; exact hg)
              · rw [e] at hg
                cases hg
                exact b1.out.size)
            clear hs2 ho2 hv2
            refine hK _ _ (fun _ _ => HQ.out _ b2.out) ?_
            clear hK K
            try simp only [Act.put, List.setIfInBounds_toArray, List.set_cons_zero, List.set_cons_succ]
            refine wpAnyD_one (i := 16) (o := { dst := some 70, op := Op.call { callee := Callee.builtin Builtin.append, args := #[Operand.tmp 62, Operand.tmp 69], argTypes := #[41, 41] }, type := 41, pos := "ref.go:126", after := #[{ on := 8, ground := Ground.data }, { on := 15, ground := Ground.data }, { on := 8, ground := Ground.chain }], guard := none }) (by kernel_rfl) rfl (fun K hK => ?_)
            refine step_append_w (by rfl) (.tmp 62) (.tmp 69) 41 rfl 23 i0 _ 6 56 Try.underlying41 hi hz0 hz1 hz2 rfl v2 (i) (rows Att.cells ((L.map (fun x : ByteArray × Att => x.2)).take i)) rfl E2.out _ rfl (n0 - (i + 1)) (rows Att.cells ((L.map (fun x : ByteArray × Att => x.2)).drop (i + 1))) (HBK.out _ b2.out) (att_one _) (by unfold maxLen; omega) (by omega) ?_
            intro v3 w3 hs3 ho3 hv3
            have b3 := hide (b2.out.trans (ho3.below b2.out.size fun i hi => V2.out i hi))
            have E3 := hide hs3
            have V3 := hide (show ∀ g, v3.ownBlock = some g → w0.heap.size ≤ g from fun g hg => by
              rcases hv3 with e | e
              · exact V2.out g (by rw [← e]; exact hg)
              · rw [e] at hg
                cases hg
                exact b2.out.size)
            clear hs3 ho3 hv3
            refine hK _ _ (fun _ _ => HQ.out _ b3.out) ?_
            clear hK K
            try simp only [Act.put, List.setIfInBounds_toArray, List.set_cons_zero, List.set_cons_succ]
            obtain ⟨Ax, cx, hvx, _⟩ := id E3.out.form
            subst hvx
            refine wpAnyD_takeW (i := 17) (oi := { dst := some 71, op := Op.nilCheck (Operand.tmp 54), type := 0, pos := "ref.go:126", after := #[{ on := 0, ground := Ground.data }, { on := 0, ground := Ground.phase }, { on := 1, ground := Ground.phase }, { on := 2, ground := Ground.phase }, { on := 3, ground := Ground.phase }, { on := 4, ground := Ground.phase }, { on := 5, ground := Ground.phase }, { on := 6, ground := Ground.phase }, { on := 7, ground := Ground.phase }, { on := 8, ground := Ground.phase }, { on := 9, ground := Ground.phase }, { on := 10, ground := Ground.phase }, { on := 11, ground := Ground.phase }, { on := 12, ground := Ground.phase }, { on := 13, ground := Ground.phase }, { on := 14, ground := Ground.phase }, { on := 15, ground := Ground.phase }, { on := 16, ground := Ground.phase }], guard := none }) (v := ?_) rfl (by kernel_rfl) (by kernel_rfl) (by kernel_rfl) (fun _ _ _ h => h) (Or.inl ⟨by rfl, ?_⟩) ?_
            rotate_left
            · intro w hSw
              clear hSw
              go_simp
              all_goals with_reducible rfl
            simp only [Act.put, List.setIfInBounds_toArray, List.set_cons_zero, List.set_cons_succ]
            refine wpAnyD_takeW (i := 18) (oi := { dst := some 72, op := Op.fieldAddr 43 (Operand.tmp 71) 1, type := 0, pos := "ref.go:126", after := #[{ on := 17, ground := Ground.data }, { on := 0, ground := Ground.phase }, { on := 1, ground := Ground.phase }, { on := 2, ground := Ground.phase }, { on := 3, ground := Ground.phase }, { on := 4, ground := Ground.phase }, { on := 5, ground := Ground.phase }, { on := 6, ground := Ground.phase }, { on := 7, ground := Ground.phase }, { on := 8, ground := Ground.phase }, { on := 9, ground := Ground.phase }, { on := 10, ground := Ground.phase }, { on := 11, ground := Ground.phase }, { on := 12, ground := Ground.phase }, { on := 13, ground := Ground.phase }, { on := 14, ground := Ground.phase }, { on := 15, ground := Ground.phase }, { on := 16, ground := Ground.phase }], guard := none }) (v := ?_) rfl (by kernel_rfl) (by kernel_rfl) (by kernel_rfl) (fun _ _ _ h => h) (Or.inl ⟨by rfl, ?_⟩) ?_
            rotate_left
            · intro w hSw
              clear hSw
              go_simp
              all_goals with_reducible rfl
            simp only [Act.put, List.setIfInBounds_toArray, List.set_cons_zero, List.set_cons_succ]
            have fz : w3.frozen? ⟨rb, 1, none⟩ = false := (H5.out.below b3.out).blk.frozen 1
            have hS := HQ.out _ b3.out
            refine wpAnyD_one (i := 19) (o := { dst := none, op := Op.store 41 (Operand.tmp 72) (Operand.tmp 70), type := 0, pos := "ref.go:126", after := #[{ on := 18, ground := Ground.data }, { on := 16, ground := Ground.data }, { on := 16, ground := Ground.chain }, { on := 0, ground := Ground.phase }, { on := 1, ground := Ground.phase }, { on := 2, ground := Ground.phase }, { on := 3, ground := Ground.phase }, { on := 4, ground := Ground.phase }, { on := 5, ground := Ground.phase }, { on := 6, ground := Ground.phase }, { on := 7, ground := Ground.phase }, { on := 8, ground := Ground.phase }, { on := 9, ground := Ground.phase }, { on := 10, ground := Ground.phase }, { on := 11, ground := Ground.phase }, { on := 12, ground := Ground.phase }, { on := 13, ground := Ground.phase }, { on := 14, ground := Ground.phase }, { on := 15, ground := Ground.phase }, { on := 16, ground := Ground.phase }], guard := none }) (by kernel_rfl) rfl (fun K hK => ?_)
            go_simp
            refine hK _ _ (fun h => by cases h) ?_
            clear hK K
            try simp only [Act.put, List.setIfInBounds_toArray, List.set_cons_zero, List.set_cons_succ]
            refine wpAnyD_done (by kernel_rfl) ?_ _
            go_wp2
            all_goals go_ret
            all_goals exact ⟨by rw [HE.out]; rfl, _, _, by rw [HDN.out]; exact H5.out.setA b3.out (HFIN.out _ _ E3.out) V3.out⟩
  · rw [plcZ_none h1]
    have HE := hide (show dropE L n = 8 by
      unfold dropE
      rw [if_pos (by rw [h2]; rfl)])
    clear h1 h2
    go_wp2
    go_ret
    exact ⟨by rw [HE.out]; rfl, _, _, by rw [HNE.out _ HE.out (by decide)]; exact H1.out⟩
end Go.Proofs.Ytmjogpacajbngaa

/- Variables: the walk of Values. No condition but those written. -/
import Derived.Test.YtempnakdpmmmoaaVgo
namespace Go.Proofs.Ytempnakdpmmmoaa
open Go.RowKit
attribute [local go_sem] neq_cells eql_cells

section
variable {W w w' : World} {b : Vb} {s : Vst} {R : Heap}
def ValsG (s : Vst) (w : World) (r : Ending) (w' : World) : Prop := ∃ v, r = .returned v ∧ Sl w' 29 2 v (valsS s).length (rows wcel (valsS s)) ∧ (∀ g, v.ownBlock = some g → w.heap.size ≤ g) ∧ Below w.heap.size w w'
theorem ints_len (ks : List Int) : (ks.map (Value.int .i64)).length = ks.length * 1 := by simp
/-- A row of keys among what is gathered: its cells. -/
theorem Out.key {w0 : World} {ob : Nat} {l : List (Int × Int)} {A : Option Addr} {cc : Nat} {ks : List Int} {n : Nat} (hn : n = ks.length) (h : Out w0 w ob l (rowOf 3 1 (.slice A n cc) n (ks.map (Value.int .i64)) ++ R)) (ok : RowOk (.slice A n cc) n) {i : Nat} {k : Int} (hi : ks[i]? = some k) :
    ∃ g off, A = some ⟨g, off, none⟩ ∧ w.cell? ⟨g, off + i, none⟩ = some (.int .i64 k) := by
  subst hn
  have hs := h.row (fun x hx => List.mem_append_left _ hx) (ints_len ks) ok
  have hlt := (List.getElem?_eq_some_iff.1 hi).1
  obtain ⟨g, off, c, hv, _, _, hc, _, _⟩ := hs.at_ (by omega)
  injection hv with e1 _ _
  exact ⟨g, off, e1, hc i _ (by simp [hi])⟩
set_option maxRecDepth 100000 in
set_option maxHeartbeats 16000000 in
theorem values_any (h : VarsAt W w b s R) (ok : s.Ok) : Calls Try.prog 33 #[.pointer (some ⟨b.vb, 0, none⟩)] w (ValsG s w) := by
  have HM := hide (made_any h)
  have h1 := h.skip (.cells #[.slice none 0 0] 49)
  have c0 : (w.alloc (.cells #[.slice none 0 0] 49)).cell? ⟨b.vb, 0, none⟩ = some (.map (some b.db)) := by rw [h1.vb.cell]; rfl
  have HKD := hide (keysE_any h1.db ok.dn ok.dr (defs_len ok))
  have HO : Out w (w.alloc (.cells #[.slice none 0 0] 49)) w.heap.size [] [] := ⟨_, by simpa [rowOf, Value.ownBlock] using (Own.refl w).newCells 49 #[.slice none 0 0], RowOk.nil⟩
  have HO := hide HO
  have H := hide h
  have HOK := hide ok
  clear h h1 ok
  go_enter Try.func33, Try.ntmps33
  go_wp2_with fail
  refine (Calls.mono (HM.out)) ?_
  rintro e w2 ⟨rfl, rfl⟩
  go_wp2_with fail
  generalize w.alloc (.cells #[.slice none 0 0] 49) = w1 at *
  generalize hob : w.heap.size = ob at *
  have HOB := hide hob
  clear hob HM
  refine (keys_fn (some b.db) w1).mono ?_
  rintro e w2 ⟨rfl, rfl⟩
  go_wp2_with fail
  refine (Calls.mono HKD.out) ?_
  rintro e w2 ⟨v, rfl, hk⟩
  clear HKD
  have hrow := hk.1.rowOk
  have HO1 := hide (HO.out.join hk.2.2 hk.1 hk.2.1)
  obtain ⟨A, cc, rfl, hcc⟩ := hk.1.form
  clear hcc
  obtain ⟨n, hn⟩ : ∃ n, n = (keysE s.defs).length := ⟨_, rfl⟩
  rw [← hn] at HO1 hrow ⊢
  have HN := hide hn
  have hn9 : n ≤ 100000 := by rw [hn, keysE_len]; have := defs_len HOK.out; omega
  have HR := hide hrow
  clear hk hrow hn c0 HO
  go_wp2
  go_loopw [24] (fun i wr => ∃ k : Nat, k ≤ n ∧ i = .int .i64 (k : Int) ∧ Out w wr ob ([] ++ fmW ((celD s).take k)) (rowOf 3 1 (.slice A n cc) n ((keysE s.defs).map (Value.int .i64)) ++ [])) (fun i _ => n - (intOf i).toNat)
  case atStart => exact ⟨0, Nat.zero_le _, rfl, HO1.out⟩
  case round =>
    obtain ⟨k, hk, rfl, hO⟩ := hrel
    by_cases hlt : k < n
    · have hz : decide ((k : Int) < (n : Int)) = true := by simp; omega
      obtain ⟨y, hy⟩ : ∃ y, (keysE s.defs)[k]? = some y := ⟨_, List.getElem?_eq_getElem (by have := HN.out; omega)⟩
      obtain ⟨gs, os, rfl, r0⟩ := hO.key HN.out HR.out hy
      have hV := H.out.below hO.bel
      have c0 : wr.cell? ⟨b.vb, 0, none⟩ = some (.map (some b.db)) := by rw [hV.vb.cell]; rfl
      obtain ⟨g, hl, hb⟩ := hV.defAt (show (keysD s)[k]? = some y from hy)
      obtain ⟨q0, q1, q2, _, _, _⟩ := cel_cells hb
      have hlen : ([] ++ fmW ((celD s).take k)).length ≤ 2000000000 := by
        have h1 := fm_len ((celD s).take k)
        have h2 : ((celD s).take k).length ≤ (celD s).length := List.length_take_le' _ _
        have h3 : (celD s).length = s.defs.length := by unfold celD; rw [List.length_map, keysD_len]
        have h4 := defs_len HOK.out
        rw [List.nil_append]
        omega
      have hst := fm_step (P := []) (L := celD s) (i := k) (c := s.dflt y) (by unfold celD; rw [List.getElem?_map, show (keysD s)[k]? = some y from hy]; rfl)
      have HA := hide (add_any hO (s.dflt y) hlen)
      rw [hst] at HA
      have HLT := hide hlt
      clear hO hV hb hy hlen hst hk hlt
      go_wp2_with fail
      refine (Calls.mono HA.out) ?_
      rintro r w3 ⟨rfl, hO2⟩
      have HN2 := hide hO2
      clear hO2 HA
      go_wp2
      go_roundw
      case rel => exact ⟨k + 1, HLT.out, by go_num, HN2.out⟩
      case measure => have := HLT.out; simp [intOf]; omega
    · have hz : decide ((k : Int) < (n : Int)) = false := by simp; omega
      obtain rfl : k = n := by omega
      have h0 := hO
      rw [List.nil_append, List.take_of_length_le (by have := HN.out; unfold celD; rw [List.length_map]; exact Nat.le_of_eq this.symm)] at h0
      obtain ⟨P1, hP1⟩ : ∃ P1, P1 = fmW (celD s) := ⟨_, rfl⟩
      rw [← hP1] at h0
      have HL1 := hide (show P1.length ≤ 16384 by
        have h1 := fm_len (celD s)
        have h3 : (celD s).length = s.defs.length := by unfold celD; rw [List.length_map, keysD_len]
        have h4 := defs_len HOK.out
        rw [hP1]
        omega)
      have HP1 := hide hP1
      have HO := hide (h0.sub (List.nil_sublist _))
      have hV := H.out.below hO.bel
      have c1 : wr.cell? ⟨b.vb, 1, none⟩ = some (.map (some b.lb)) := by rw [hV.vb.cell]; rfl
      have HKL := hide (keysL_any hV HOK.out)
      clear hO h0 hV hP1 HO1 HR HN hk hlt
      obtain ⟨w4, rfl⟩ : ∃ x : World, x = wr := ⟨_, rfl⟩
      go_wp2_with fail
      refine (keysB_fn (some b.lb) w4).mono ?_
      rintro e w5 ⟨rfl, rfl⟩
      go_wp2_with fail
      refine (Calls.mono HKL.out) ?_
      rintro e w5 ⟨v, rfl, hk⟩
      clear HKL
      have hrow := hk.1.rowOk
      have HO1 := hide (HO.out.join hk.2.2 hk.1 hk.2.1)
      obtain ⟨A2, cc2, rfl, hcc⟩ := hk.1.form
      clear hcc
      obtain ⟨n2, hn⟩ : ∃ n2, n2 = (keysL s).length := ⟨_, rfl⟩
      rw [← hn] at HO1 hrow ⊢
      have HN := hide hn
      have hn8 : n2 ≤ 100000 := by rw [hn, keysL_len]; have := locs_len HOK.out; omega
      have HR := hide hrow
      clear hk hrow hn c1 HO
      go_wp2
      go_loopw [46] (fun i wr => ∃ k : Nat, k ≤ n2 ∧ i = .int .i64 (k : Int) ∧ Out w wr ob (P1 ++ fmW (((keysL s).take k).flatMap (celI s))) (rowOf 3 1 (.slice A2 n2 cc2) n2 ((keysL s).map (Value.int .i64)) ++ [])) (fun i _ => n2 - (intOf i).toNat)
      case atStart => exact ⟨0, Nat.zero_le _, rfl, by simpa [fmW] using HO1.out⟩
      case round =>
        obtain ⟨k, hk, rfl, hO⟩ := hrel
        by_cases hlt : k < n2
        · have hz : decide ((k : Int) < (n2 : Int)) = true := by simp; omega
          obtain ⟨y, hy⟩ : ∃ y, (keysL s)[k]? = some y := ⟨_, List.getElem?_eq_getElem (by have := HN.out; omega)⟩
          obtain ⟨gs, os, rfl, r0⟩ := hO.key HN.out HR.out hy
          have hV := H.out.below hO.bel
          have c1 : wr.cell? ⟨b.vb, 1, none⟩ = some (.map (some b.lb)) := by rw [hV.vb.cell]; rfl
          obtain ⟨x, hx, hl⟩ := hV.locAt hy
          have hxm := (fndL_mem hx).1
          have hin : s.inner y = x.es := by unfold Vst.inner; rw [hx]; rfl
          have HKE := hide (keysE_any (hV.loc hxm) (HOK.out.en x hxm).1 (HOK.out.en x hxm).2 (by rw [← hin]; exact inner_len HOK.out y))
          obtain ⟨P2, hP2⟩ : ∃ P2, P2 = P1 ++ fmW (((keysL s).take k).flatMap (celI s)) := ⟨_, rfl⟩
          rw [← hP2] at hO
          have HL2 := hide (show P2.length ≤ 1100000000 by
            have h1 := fm_len (((keysL s).take k).flatMap (celI s))
            have h2 := flat_len (celI_len HOK.out) ((keysL s).take k)
            have h3 : ((keysL s).take k).length ≤ 65536 := by
              have := locs_len HOK.out
              have h4 := List.length_take_le' k (keysL s)
              rw [keysL_len] at h4
              omega
            have h5 := HL1.out
            have h6 : ((keysL s).take k).length * 16384 ≤ 65536 * 16384 := Nat.mul_le_mul_right _ h3
            rw [hP2, List.length_append]
            omega)
          have HST := hide (show P2 ++ fmW (celI s y) = P1 ++ fmW (((keysL s).take (k + 1)).flatMap (celI s)) by
            rw [hP2, List.append_assoc, fm_flat _ _ _ hy])
          have HO := hide hO
          have HX := hide (And.intro hx hin)
          have HLT := hide hlt
          clear hO hV hx hxm hin hP2 hy hk hlt
          obtain ⟨w6, rfl⟩ : ∃ x : World, x = wr := ⟨_, rfl⟩
          go_wp2_with fail
          refine (keys_fn (some x.g) w6).mono ?_
          rintro e w7 ⟨rfl, rfl⟩
          go_wp2_with fail
          refine (Calls.mono HKE.out) ?_
          rintro e w7 ⟨v, rfl, hk⟩
          clear HKE
          have hrow := hk.1.rowOk
          have HO3 := hide (HO.out.join hk.2.2 hk.1 hk.2.1)
          obtain ⟨A3, cc3, rfl, hcc⟩ := hk.1.form
          clear hcc
          obtain ⟨n3, hn⟩ : ∃ n3, n3 = (keysE x.es).length := ⟨_, rfl⟩
          rw [← hn] at HO3 hrow ⊢
          have HN3 := hide hn
          have hn7 : n3 ≤ 100000 := by rw [hn, keysE_len, ← HX.out.2]; have := inner_len HOK.out y; omega
          have HR3 := hide hrow
          clear hk hrow hn c1 hl r0
          go_wp2
          go_loopw [59] (fun i wr => ∃ k : Nat, k ≤ n3 ∧ i = .int .i64 (k : Int) ∧ Out w wr ob (P2 ++ fmW ((celI s y).take k)) (rowOf 3 1 (.slice A3 n3 cc3) n3 ((keysE x.es).map (Value.int .i64)) ++ (rowOf 3 1 (.slice (some ⟨gs, os, none⟩) n2 cc2) n2 ((keysL s).map (Value.int .i64)) ++ []))) (fun i _ => n3 - (intOf i).toNat)
          case atStart => exact ⟨0, Nat.zero_le _, rfl, by simpa [fmW] using HO3.out⟩
          case round =>
            obtain ⟨j, hj, rfl, hO⟩ := hrel
            by_cases hlt : j < n3
            · have hz : decide ((j : Int) < (n3 : Int)) = true := by simp; omega
              obtain ⟨z, hzk⟩ : ∃ z, (keysE x.es)[j]? = some z := ⟨_, List.getElem?_eq_getElem (by have := HN3.out; omega)⟩
              obtain ⟨gs3, os3, rfl, r0⟩ := hO.key HN3.out HR3.out hzk
              have hV := H.out.below hO.bel
              have c1 : wr.cell? ⟨b.vb, 1, none⟩ = some (.map (some b.lb)) := by rw [hV.vb.cell]; rfl
              have hl := (hV.lb).lookup (P := Try.prog) (loc_keys s.locs) Try.underlying53 Try.underlying3 (.int _ y) (zero_map _) false
              rw [loc_get, HX.out.1] at hl
              simp only [Option.map_some, Option.getD_some, Bool.false_eq_true, if_false] at hl
              obtain ⟨g, hl2, hb⟩ := hV.entAt HX.out.1 hzk
              obtain ⟨q0, q1, q2, _, _, _⟩ := cel_cells hb
              have hlen : (P2 ++ fmW ((celI s y).take j)).length ≤ 2000000000 := by
                have h1 := fm_len ((celI s y).take j)
                have h2 : ((celI s y).take j).length ≤ (celI s y).length := List.length_take_le' _ _
                have h3 := celI_len HOK.out y
                have h4 := HL2.out
                rw [List.length_append]
                omega
              have hst := fm_step (P := P2) (L := celI s y) (i := j) (c := celK s y z) (by unfold celI; rw [HX.out.2, List.getElem?_map, hzk]; rfl)
              have HA := hide (add_any hO (celK s y z) hlen)
              rw [hst] at HA
              have HLJ := hide hlt
              clear hO hV hb hzk hlen hst hj hlt
              go_wp2_with fail
              refine (Calls.mono HA.out) ?_
              rintro r w8 ⟨rfl, hO2⟩
              have HN2 := hide hO2
              clear hO2 HA
              go_wp2
              go_roundw
              case rel => exact ⟨j + 1, HLJ.out, by go_num, HN2.out⟩
              case measure => have := HLJ.out; simp [intOf]; omega
            · have hz : decide ((j : Int) < (n3 : Int)) = false := by simp; omega
              obtain rfl : j = n3 := by omega
              have h0 := hO
              rw [List.take_of_length_le (by have := HN3.out; unfold celI; rw [List.length_map, HX.out.2]; exact Nat.le_of_eq this.symm), HST.out] at h0
              have HN2 := hide (h0.sub (List.sublist_append_right _ _))
              clear hO h0 hj hlt
              go_wp2
              go_roundw
              case rel => exact ⟨k + 1, HLT.out, by go_num, HN2.out⟩
              case measure => have := HLT.out; simp [intOf]; omega
        · have hz : decide ((k : Int) < (n2 : Int)) = false := by simp; omega
          obtain rfl : k = n2 := by omega
          have h0 := hO
          rw [List.take_of_length_le (by have := HN.out; exact Nat.le_of_eq this.symm), HP1.out] at h0
          obtain ⟨P3, hP3⟩ : ∃ P3, P3 = fmW (celD s) ++ fmW ((keysL s).flatMap (celI s)) := ⟨_, rfl⟩
          rw [← hP3] at h0
          have HL3 := hide (show P3.length ≤ 1200000000 by
            have h1 := fm_len ((keysL s).flatMap (celI s))
            have h2 := flat_len (celI_len HOK.out) (keysL s)
            have h3 : (keysL s).length ≤ 65536 := by rw [keysL_len]; exact locs_len HOK.out
            have h5 := HL1.out
            rw [HP1.out] at h5
            have h6 : (keysL s).length * 16384 ≤ 65536 * 16384 := Nat.mul_le_mul_right _ h3
            rw [hP3, List.length_append]
            omega)
          have HP3 := hide hP3
          have HO4 := hide (h0.sub (List.nil_sublist _))
          have hV := H.out.below hO.bel
          obtain ⟨A4, cc4, hv4, hcc⟩ := hV.sl.form
          have c3 : wr.cell? ⟨b.vb, 3, none⟩ = some (.slice A4 s.notes.length cc4) := by rw [hV.vb.cell, ← hv4]; rfl
          obtain ⟨n4, hn4⟩ : ∃ n4, n4 = s.notes.length := ⟨_, rfl⟩
          rw [← hn4] at c3 hv4
          have hn6 : n4 ≤ 2000 := by rw [hn4]; exact HOK.out.nl
          have HN4 := hide hn4
          have HV4 := hide hv4
          clear hO h0 hV hP3 HO1 HR HN hk hlt hcc hn4 hv4
          obtain ⟨w6, rfl⟩ : ∃ x : World, x = wr := ⟨_, rfl⟩
          go_wp2
          go_loopw [82] (fun i wr => ∃ k : Nat, k ≤ n4 ∧ i = .int .i64 (k : Int) ∧ Out w wr ob (P3 ++ fmW ((s.notes.map (·.c)).take k)) []) (fun i _ => n4 - (intOf i).toNat)
          case atStart => exact ⟨0, Nat.zero_le _, rfl, by simpa [fmW] using HO4.out⟩
          case round =>
            obtain ⟨k, hk, rfl, hO⟩ := hrel
            by_cases hlt : k < n4
            · have hz : decide ((k : Int) < (n4 : Int)) = true := by simp; omega
              obtain ⟨x, hx⟩ : ∃ x, s.notes[k]? = some x := ⟨_, List.getElem?_eq_getElem (by have := HN4.out; omega)⟩
              have hV := H.out.below hO.bel
              obtain ⟨g, off, c4, hvv, _, _, hg, hfz, hcell⟩ := hV.sl.fld nte_len (by have := HN4.out; omega)
              obtain ⟨rfl, rfl⟩ : A4 = some ⟨g, off, none⟩ ∧ cc4 = c4 := by
                have h8 := HV4.out
                rw [hvv] at h8
                injection h8 with e1 _ e2
                exact ⟨e1.symm, e2.symm⟩
              have p0 : wr.cell? ⟨g, off + k * 6, none⟩ = some (.int .i64 x.c.k) := hcell k x 0 _ hx rfl
              have p1 : wr.cell? ⟨g, off + k * 6 + 1, none⟩ = some (.int .i64 x.c.n) := hcell k x 1 _ hx rfl
              have p2 : wr.cell? ⟨g, off + k * 6 + 2, none⟩ = some (.bool x.c.b) := hcell k x 2 _ hx rfl
              have p3 : wr.cell? ⟨g, off + k * 6 + 3, none⟩ = some (.int .i64 x.n) := hcell k x 3 _ hx rfl
              have p4 : wr.cell? ⟨g, off + k * 6 + 4, none⟩ = some (.int .i64 x.s) := hcell k x 4 _ hx rfl
              have p5 : wr.cell? ⟨g, off + k * 6 + 5, none⟩ = some (.func (.func 36) #[] #[.pointer (some ⟨x.g1, 0, none⟩), .pointer (some ⟨x.g2, 0, none⟩)]) := hcell k x 5 _ hx rfl
              have hlen : (P3 ++ fmW ((s.notes.map (·.c)).take k)).length ≤ 2000000000 := by
                have h1 := fm_len ((s.notes.map (·.c)).take k)
                have h2 : ((s.notes.map (·.c)).take k).length ≤ (s.notes.map (·.c)).length := List.length_take_le' _ _
                have h3 := HOK.out.nl
                have h4 := HL3.out
                rw [List.length_map] at h2
                rw [List.length_append]
                omega
              have hst := fm_step (P := P3) (L := s.notes.map (·.c)) (i := k) (c := x.c) (by rw [List.getElem?_map, hx]; rfl)
              have HA := hide (add_any (hO.below ((Below.refl _ wr).alloc (Nat.le_refl _) (.cells #[.int .i64 x.c.k, .int .i64 x.c.n, .bool x.c.b, .int .i64 x.n, .int .i64 x.s, .func (.func 36) #[] #[.pointer (some ⟨x.g1, 0, none⟩), .pointer (some ⟨x.g2, 0, none⟩)]] 64))) x.c hlen)
              rw [hst] at HA
              have HLT := hide hlt
              clear hO hV hcell hfz hg hvv hx hlen hst hk hlt
              go_wp2_with fail
              refine (Calls.mono HA.out) ?_
              rintro r w8 ⟨rfl, hO2⟩
              have HN2 := hide hO2
              clear hO2 HA
              go_wp2
              go_roundw
              case rel => exact ⟨k + 1, HLT.out, by go_num, HN2.out⟩
              case measure => have := HLT.out; simp [intOf]; omega
            · have hz : decide ((k : Int) < (n4 : Int)) = false := by simp; omega
              obtain rfl : k = n4 := by omega
              have h0 := hO
              rw [List.take_of_length_le (by have := HN4.out; rw [List.length_map]; exact Nat.le_of_eq this.symm), HP3.out] at h0
              have h0 : Out w wr ob (valsS s) [] := h0
              obtain ⟨vv, ho, hsl⟩ := h0.open_
              have e0 := (ho.blk (List.mem_cons_self ..)).cell 0
              have HF := hide (show ∀ g, vv.ownBlock = some g → w.heap.size ≤ g from fun g hg => ho.ge (g := g) (List.mem_cons_of_mem _ (List.mem_append_left _ (by rw [rowOf_some hg]; exact List.mem_singleton.2 rfl))))
              have HB := hide ho.bel
              have HS := hide hsl
              clear hO h0 ho hsl hk hlt
              obtain ⟨A5, cc5, rfl, hcc⟩ := HS.out.form
              clear hcc
              go_wp2
              go_ret
              exact ⟨_, rfl, HS.out, HF.out, HB.out⟩
end
end Go.Proofs.Ytempnakdpmmmoaa

/- UndoBack: the walk. No condition but those written. -/
import Derived.Test.YtghcmakhfdnimaaDoorUcb
import Derived.Deep.CutBlock
import Derived.Deep.DeepCutAuto
namespace Go.Proofs.YtghcmakhfdnimaaDoor
open Go.RowKit

/-- An edit that came in. -/
structure Edt where
  p : Int
  n : Int
  tx : ByteArray
  cl : Bool
def Edt.cells (a : Edt) : List Value := [.int .i64 a.p, .int .i64 a.n, .string a.tx, .bool a.cl]
theorem edt_len (a : Edt) : a.cells.length = 4 := rfl
section
variable {W w w' : World} {lb rb : Nat} {s : Lg} {L : List Nat} {R : Heap}
/-- A fresh slice joins. -/
theorem UAt.joinRow {T : TypeId} {k n : Nat} {v : Value} {xs : List Value} (h : UAt W w lb s rb L R) (hb : Below w.heap.size w w') (hs : Sl w' T k v n xs) (hf : ∀ g, v.ownBlock = some g → w.heap.size ≤ g) : UAt W w' lb s rb L (rowOf T k v n xs ++ R) :=
  h.re fun _ h1 => by rw [List.append_assoc]; exact h1.joinRow hb hs hf
theorem UAt.firstT (h : UAt W w lb s rb L R) (M : List Nat) : UAt W (w.alloc (.cells #[.string (strOf M)] 9)) lb s rb L (tRow (.slice (some ⟨w.heap.size, 0, none⟩) 1 1) [M] ++ R) ∧ RowOk (.slice (some ⟨w.heap.size, 0, none⟩) 1 1) [M].length := by
  have hs : Sl (w.alloc (.cells #[.string (strOf M)] 9)) 9 1 (.slice (some ⟨w.heap.size, 0, none⟩) 1 1) 1 [.string (strOf M)] := Sl.new w 9 1 #[.string (strOf M)] 1 1 (Nat.le_refl _) (by unfold maxLen; omega) (by simp)
  refine ⟨h.joinRow ((Below.refl _ w).alloc (Nat.le_refl _) _) hs ?_, hs.rowOk⟩
  intro g hg
  simp [Value.ownBlock] at hg
  omega
end
set_option maxRecDepth 100000 in
set_option maxHeartbeats 16000000 in
theorem back_walk (s : ByteArray) (l : List Edt) (v : Value) (W : World) (hT : Rules W) (hr : Rd W v 4 l.length (rows Edt.cells l)) (hm : l.length ≤ maxLen) (hs : s.size ≤ 1048576) :
    Calls Tryd.prog 3 #[.string s, v] W fun e w' => e = .returned (.bool true) ∧ Below W.heap.size W w' := by
  have HL := hide (lives_any W hT)
  have HT := hide hT
  obtain ⟨A, cp, rfl, -, -⟩ := id hr
  obtain ⟨N, hN⟩ : ∃ N, N = l.length := ⟨_, rfl⟩
  have HR := hide hr
  have HN := hide hN
  rw [← hN] at hm ⊢
  unfold maxLen at hm
  clear hT hr hN
  by_cases h2 : 200 < s.size
  · have z1 : decide (200 < s.size) = true := by simpa using h2
    have z1' : decide ((200 : Int) < (s.size : Int)) = true := by simp; omega
    have HF := hide (fun w => rnew_far s w hs)
    clear h2
    go_enter Tryd.func3, Tryd.ntmps3
    go_wp2_with fail
    refine (Calls.mono (HL.out)) ?_
    rintro r w2 ⟨rfl, b2⟩
    have B2 := hide b2
    clear b2
    go_wp2_with fail
    refine (Calls.mono (HF.out _)) ?_
    rintro r w3 ⟨⟨p, z, rfl⟩, b3⟩
    have B3 := hide (B2.out.trans (b3.mono B2.out.size))
    clear b3 B2
    go_wp2
    go_ret
    exact ⟨rfl, B3.out⟩
  have z1 : decide (200 < s.size) = false := by simpa using h2
  have z1' : decide ((200 : Int) < (s.size : Int)) = false := by simp; omega
  by_cases h3 : 20 < N
  · have z2 : decide (20 < N) = true := by simpa using h3
    have z2' : decide ((20 : Int) < (N : Int)) = true := by simp; omega
    have HF := hide (fun w => rnew_far s w hs)
    clear h2 h3
    go_enter Tryd.func3, Tryd.ntmps3
    go_wp2_with fail
    refine (Calls.mono (HL.out)) ?_
    rintro r w2 ⟨rfl, b2⟩
    have B2 := hide b2
    clear b2
    go_wp2_with fail
    refine (Calls.mono (HF.out _)) ?_
    rintro r w3 ⟨⟨p, z, rfl⟩, b3⟩
    have B3 := hide (B2.out.trans (b3.mono B2.out.size))
    clear b3 B2
    go_wp2
    go_ret
    exact ⟨rfl, B3.out⟩
  have z2 : decide (20 < N) = false := by simpa using h3
  have z2' : decide ((20 : Int) < (N : Int)) = false := by simp; omega
  have HS2 := hide (show s.size ≤ 200 by omega)
  have hN20 : N ≤ 20 := by omega
  clear h2 h3 hs
  go_enter Tryd.func3, Tryd.ntmps3
  go_wp2_with fail
  refine (Calls.mono (HL.out)) ?_
  rintro r w2 ⟨rfl, b2⟩
  have B2 := hide b2
  clear b2 HL
  go_wp2_with fail
  refine Calls.mono (rnew_any (R := []) (W := W) ((Own.refl W).below B2.out) s (by have := HS2.out; omega)) ?_
  rintro r w3 (⟨hv, rfl, b3⟩ | ⟨hv, rb, rv, rfl, h3⟩)
  · have B3 := hide b3.bel
    clear b3 hv B2
    go_wp2
    go_ret
    exact ⟨rfl, B3.out⟩
  · have H3 := hide h3
    have HLEN := hide (show (charsOf s).length ≤ 200 by rw [← lenS_eq]; have := lenS_le s; have := HS2.out; omega)
    have HOK := hide (charsOf_okc hv)
    clear h3 hv B2 HS2
    generalize charsOf s = L0 at *
    go_wp2_with fail
    refine Calls.mono (new_ok H3.out.own 1048576 (by omega) (by omega)) ?_
    rintro r w4 ⟨rfl, h4⟩
    have h4' : UAt W w4 w3.heap.size (Lg.new 1048576) rb L0 [] := ⟨_, _, rfl, h4, H3.out.ok⟩
    have H4 := hide h4'
    generalize w3.heap.size = lb at *
    clear h4 h4' H3 z1 z1' z2 z2'
    go_wp2_with fail
    refine Calls.mono (uall_any H4.out (by have := HLEN.out; omega) HOK.out) ?_
    rintro r w5 ⟨rfl, h5⟩
    have H5 := hide (h5.firstT L0)
    clear h5 H4
    have P0 := hide (Ph1.start HLEN.out HOK.out)
    clear HLEN HOK
    go_wp2
    go_loopw [9, 10, 11] (fun tv op i wr => ∃ (k : Nat) (T : List (List Nat)) (L : List Nat) (s1 : Lg) (em : Bool), k ≤ N ∧ i = .int .i64 (k : Int) ∧ op = .bool em ∧ em = (!s1.O.isEmpty) ∧ (em = true → k < N) ∧ UAt W wr lb s1 rb L (tRow tv T ++ []) ∧ RowOk tv T.length ∧ Ph1 T L s1 k) (fun _ _ i _ => N - (intOf i).toNat)
    case atStart => exact ⟨0, [L0], L0, Lg.new 1048576, false, Nat.zero_le _, rfl, rfl, rfl, (fun e => by cases e), H5.out.1, H5.out.2, P0.out⟩
    case round =>
      clear H5 P0
      obtain ⟨k, T, L, s1, em, hk, rfl, rfl, hem, hlt0, hu, okT, hp⟩ := hrel
      have HEM := hide hem
      have HL0 := hide hlt0
      have OKT := hide okT
      have HP := hide hp
      clear hem hlt0 okT hp
      by_cases hlt : k < N
      · have y1 : decide (k < N) = true := by simpa using hlt
        have y2 : decide ((k : Int) < (N : Int)) = true := by simp; omega
        obtain ⟨x, hx⟩ : ∃ x, l[k]? = some x := ⟨_, List.getElem?_eq_getElem (by rw [← HN.out]; exact hlt)⟩
        obtain ⟨g, off, c', hv, hc⟩ := (HR.out.belowR hu.bel).fld edt_len (by rw [← HN.out]; omega)
        injection hv with e1 _ e2
        subst e1 e2
        have p0 := hc k x 0 _ hx rfl
        rw [Nat.add_zero] at p0
        have p1 := hc k x 1 _ hx rfl
        have p2 := hc k x 2 _ hx rfl
        have p3 := hc k x 3 _ hx rfl
        have kk0 : (0 : Int) ≤ (k : Int) := by omega
        have kk1 : (k : Int) < (N : Int) := by omega
        have HX := hide hx
        obtain ⟨xb, hxb⟩ : ∃ xb, xb = wr.heap.size := ⟨_, rfl⟩
        have HB := hide (show UAt W (wr.alloc (.cells #[.int .i64 x.p, .int .i64 x.n, .string x.tx, .bool x.cl] 34)) lb s1 rb L ((xb, .cells 34 #[.int .i64 x.p, .int .i64 x.n, .string x.tx, .bool x.cl]) :: (tRow u9 T ++ [])) from by rw [hxb]; exact hu.box _ _)
        have HCEL := hide (fun w' s' L' (hh : UAt W w' lb s' rb L' ((xb, .cells 34 #[.int .i64 x.p, .int .i64 x.n, .string x.tx, .bool x.cl]) :: (tRow u9 T ++ []))) => (show w'.cell? ⟨xb, 0, none⟩ = some (.int .i64 x.p) ∧ w'.cell? ⟨xb, 1, none⟩ = some (.int .i64 x.n) ∧ w'.cell? ⟨xb, 2, none⟩ = some (.string x.tx) ∧ w'.cell? ⟨xb, 3, none⟩ = some (.bool x.cl) from by
          have hbk := hh.rest.blk (List.mem_cons_self ..)
          exact ⟨by rw [hbk.cell]; rfl, by rw [hbk.cell]; rfl, by rw [hbk.cell]; rfl, by rw [hbk.cell]; rfl⟩))
        clear hc hu hx
        go_upto_region 15 with fail
        rw [← hxb]
        clear hxb p0 p1 p2 p3
        generalize wr.alloc (.cells #[.int .i64 x.p, .int .i64 x.n, .string x.tx, .bool x.cl] 34) = wb at HB ⊢
        obtain ⟨c0, c1, c2, c3⟩ := HCEL.out _ _ _ HB.out
        by_cases hbig : 60 < x.tx.size
        · have z1 : decide (60 < x.tx.size) = true := by simpa using hbig
          have z2 : decide ((60 : Int) < (x.tx.size : Int)) = true := by simp; omega
          clear hbig
          have HBEL := hide HB.out.bel
          go_wp2
          go_ret
          exact ⟨rfl, HBEL.out⟩
        have z1 : decide (60 < x.tx.size) = false := by simpa using hbig
        have z2 : decide ((60 : Int) < (x.tx.size : Int)) = false := by simp; omega
        have HTS := hide (show x.tx.size ≤ 60 by omega)
        have HVA := hide (refvalid_any x.tx wb (by omega))
        clear hbig
        cases hval : validS x.tx with
        | false =>
          rw [hval] at HVA
          go_wp2_with fail
          refine (Calls.mono (HVA.out)) ?_
          rintro r w6 ⟨rfl, b6⟩
          have HBEL := hide (HB.out.below b6).bel
          clear b6
          go_wp2
          go_ret
          exact ⟨rfl, HBEL.out⟩
        | true =>
          rw [hval] at HVA
          have HVAL := hide hval
          go_wp2_with fail
          refine (Calls.mono (HVA.out)) ?_
          rintro r w6 ⟨rfl, b6⟩
          have HB6 := hide (HB.out.below b6)
          clear b6 HVA hval c0 c1 c2 c3 z1 z2 HB
          obtain ⟨m, hm0⟩ : ∃ m, m = L.length := ⟨_, rfl⟩
          have hm9 : m ≤ 1400 := by have := HP.out.short; omega
          have HSZ := hide (fun w' (hh : UAt W w' lb s1 rb L ((xb, .cells 34 #[.int .i64 x.p, .int .i64 x.n, .string x.tx, .bool x.cl]) :: (tRow u9 T ++ []))) => (show Calls Tryd.prog 15 #[.pointer (some ⟨rb, 0, none⟩)] w' (fun e w'' => e = .returned (.int .i64 (m : Int)) ∧ w' = w'') from hm0 ▸ usize_q hh (by omega)))
          have q1 := pickZ_ge (n := x.p) (k := (m : Int) + 1) (by omega)
          have q2 := pickZ_lt (n := x.p) (k := (m : Int) + 1) (by omega)
          have HPK1 := hide (fun w' => pick_any x.p ((m : Int) + 1) w' (by omega) (by omega))
          obtain ⟨P1, hP1⟩ : ∃ P1 : Nat, pickZ x.p ((m : Int) + 1) = (P1 : Int) := ⟨(pickZ x.p ((m : Int) + 1)).toNat, by omega⟩
          rw [hP1] at q1 q2 HPK1
          obtain ⟨Z, hZ⟩ : ∃ Z : Int, Z = (m : Int) + 2 - (1 + (P1 : Int)) := ⟨_, rfl⟩
          have q3 := pickZ_ge (n := x.n) (k := Z) (by omega)
          have q4 := pickZ_lt (n := x.n) (k := Z) (by omega)
          have HPK2 := hide (fun w' => pick_any x.n Z w' (by omega) (by omega))
          obtain ⟨P2, hP2⟩ : ∃ P2 : Nat, pickZ x.n Z = (P2 : Int) := ⟨(pickZ x.n Z).toNat, by omega⟩
          rw [hP2] at q3 q4 HPK2
          obtain ⟨a, ha⟩ : ∃ a : Nat, a = 1 + P1 := ⟨_, rfl⟩
          obtain ⟨d, hd⟩ : ∃ d : Nat, d = a + P2 := ⟨_, rfl⟩
          have w1 : IntKind.i64.wrap ((m : Int) + 1) = (m : Int) + 1 := IntWalk.i64_in _ (by omega)
          have w2' : IntKind.i64.wrap (1 + (P1 : Int)) = (a : Int) := by rw [IntWalk.i64_in _ (by omega)]; omega
          have w3' : IntKind.i64.wrap ((m : Int) + 2) = (m : Int) + 2 := IntWalk.i64_in _ (by omega)
          have w4' : IntKind.i64.wrap ((m : Int) + 2 - (a : Int)) = Z := by rw [IntWalk.i64_in _ (by omega)]; omega
          have w5' : IntKind.i64.wrap ((a : Int) + (P2 : Int)) = (d : Int) := by rw [IntWalk.i64_in _ (by omega)]; omega
          have HADM := hide (show 1 ≤ a ∧ a ≤ d ∧ d ≤ L.length + 1 by omega)
          clear hP1 hP2 hZ ha hd q1 q2 q3 q4 hm0
          obtain ⟨c0, c1, c2, c3⟩ := HCEL.out _ _ _ HB6.out
          go_upto_region 17 with fail
          have H10 := hide (HB6.out.below (Below.refl _ _).drew)
          clear HB6 c0 c1 c2 c3
          go_region_held3 (fun w' => w'.cell? ⟨xb, 0, none⟩ = some (.int .i64 x.p))
            (first | exact (HCEL.out _ _ _ H10.out).1)
            ((first
              | (go_at_call 15; refine Calls.mono (HSZ.out _ H10.out) ?_; rintro e w11 ⟨rfl, rfl⟩)
              | (go_at_call 14; refine Calls.mono (HPK1.out _) ?_; rintro e w12 ⟨rfl, rfl⟩)))
          go_upto_region 18 with fail
          have H11 := hide (H10.out.below (Below.refl _ _).drew)
          clear H10
          go_region_held3 (fun w' => w'.cell? ⟨xb, 1, none⟩ = some (.int .i64 x.n))
            (first | exact (HCEL.out _ _ _ H11.out).2.1)
            ((first
              | (go_at_call 15; refine Calls.mono (HSZ.out _ H11.out) ?_; rintro e w11 ⟨rfl, rfl⟩)
              | (go_at_call 14; refine Calls.mono (HPK2.out _) ?_; rintro e w12 ⟨rfl, rfl⟩)))
          obtain ⟨c0, c1, c2, c3⟩ := HCEL.out _ _ _ H11.out
          obtain ⟨M, L', hin⟩ := HP.out.edIn (by omega) HADM.out HVAL.out HTS.out
          have HIN := hide hin
          have HED := hide (edited_all H11.out HP.out.fine (by omega) HT.out hin)
          clear hin HPK1 HPK2 HSZ HVAL H11
          go_wp2_with fail
          refine Calls.mono HED.out ?_
          rintro r w12 ⟨rfl, s2, h12, hed, hiff⟩
          have HPE := hide (HP.out.edit HIN.out HTS.out hed (by omega))
          have H12 := hide h12
          have HIFF := hide hiff
          have HEI := hide (show (!s2.O.isEmpty) = (em || (decide (a < d) || !x.tx.toList.isEmpty)) from by
            have e1 : ((!s2.O.isEmpty) = true) ↔ s2.O ≠ [] := isEmpty_iff
            have e2 : (em = true) ↔ s1.O ≠ [] := by rw [HEM.out]; exact isEmpty_iff
            have e3 : x.tx.toList.isEmpty = true ↔ x.tx = ⟨#[]⟩ := ⟨fun q => Classical.byContradiction fun hn => (by rw [ne_empty hn] at q; cases q), empty_is⟩
            rw [Bool.eq_iff_iff, e1, Bool.or_eq_true, Bool.or_eq_true, e2, decide_eq_true_iff, Bool.not_eq_true', ← Bool.not_eq_true, e3]
            have := hiff
            constructor
            · intro h1
              by_cases k1 : s1.O = []
              · by_cases k2 : a < d
                · exact .inr (.inl k2)
                · exact .inr (.inr fun k3 => h1 (this.2 ⟨k1, k2, k3⟩))
              · exact .inl k1
            · rintro h1 h2
              obtain ⟨k1, k2, k3⟩ := this.1 h2
              rcases h1 with h1 | h1 | h1
              · exact h1 k1
              · exact k2 h1
              · exact h1 k3)
          obtain ⟨em2, hem2⟩ : ∃ em2, em2 = (!s2.O.isEmpty) := ⟨_, rfl⟩
          rw [← hem2] at HEI
          have HEM2 := hide hem2
          clear h12 hed hiff hem2 HED HEM HP HL0 c0 c1 c2 c3 HTS
          obtain ⟨c0, c1, c2, c3⟩ := HCEL.out _ _ _ H12.out
          go_upto_region 21 with fail
          go_cut [10] (fun op wx => op = .bool em2 ∧ wx = w12)
          case first =>
            cases em with
            | true =>
              have HE := hide (show em2 = true by rw [HEI.out]; rfl)
              go_wp2_with fail
              go_meet
              exact ⟨by rw [HE.out], rfl⟩
            | false =>
              by_cases hd : a < d
              · have z1 : decide ((a : Int) < (d : Int)) = true := by simp; omega
                have z2 : decide (a < d) = true := by simpa using hd
                have HE := hide (show em2 = true by rw [HEI.out, z2]; rfl)
                clear hd
                go_wp2_with fail
                go_meet
                exact ⟨by rw [HE.out], rfl⟩
              · have z1 : decide ((a : Int) < (d : Int)) = false := by simp; omega
                have z2 : decide (a < d) = false := by simpa using hd
                clear hd
                cases ht : x.tx.toList.isEmpty with
                | true =>
                  have HE := hide (show em2 = false by rw [HEI.out, z2, ht]; rfl)
                  have z3 : (!x.tx.toList.isEmpty) = false := by rw [ht]; rfl
                  go_wp2_with fail
                  go_meet
                  exact ⟨by rw [HE.out], rfl⟩
                | false =>
                  have HE := hide (show em2 = true by rw [HEI.out, z2, ht]; rfl)
                  have z3 : (!x.tx.toList.isEmpty) = true := by rw [ht]; rfl
                  go_wp2_with fail
                  go_meet
                  exact ⟨by rw [HE.out], rfl⟩
          case rest =>
            obtain ⟨rfl, rfl⟩ := hcut
            obtain ⟨w12, rfl⟩ : ∃ w : World, w = wc := ⟨_, rfl⟩
            clear HEI
            obtain ⟨n1, hn1⟩ : ∃ n1 : Int, n1 = (N : Int) - 1 := ⟨_, rfl⟩
            have w6' : IntKind.i64.wrap ((N : Int) - 1) = n1 := by rw [IntWalk.i64_in _ (by omega)]; exact hn1.symm
            obtain ⟨cls, hcls⟩ : ∃ cls : Bool, cls = (em2 && (x.cl || decide (k + 1 = N))) := ⟨_, rfl⟩
            have HCLS := hide hcls
            have HN1 := hide hn1
            clear hcls hn1
            go_upto_region 22 with fail
            go_cut [119] (fun b wx => b = .bool cls ∧ wx = w12)
            case first =>
              cases em2 with
              | false =>
                have HE := hide (show cls = false by rw [HCLS.out]; rfl)
                go_wp2_with fail
                go_meet
                exact ⟨by rw [HE.out], rfl⟩
              | true =>
                cases hxc : x.cl with
                | true =>
                  rw [hxc] at c3
                  have HE := hide (show cls = true by rw [HCLS.out, hxc]; rfl)
                  go_wp2_with fail
                  go_meet
                  exact ⟨by rw [HE.out], rfl⟩
                | false =>
                  rw [hxc] at c3
                  by_cases hlast : k + 1 = N
                  · have z1 : ((k : Int) == n1) = true := by have := HN1.out; simp; omega
                    have z2 : decide ((k : Int) = n1) = true := by have := HN1.out; simp; omega
                    have HE := hide (show cls = true by rw [HCLS.out, hxc, decide_eq_true hlast]; rfl)
                    clear hlast
                    go_wp2_with fail
                    go_meet
                    exact ⟨by rw [HE.out], rfl⟩
                  · have z1 : ((k : Int) == n1) = false := by have := HN1.out; simp; omega
                    have z2 : decide ((k : Int) = n1) = false := by have := HN1.out; simp; omega
                    have HE := hide (show cls = false by rw [HCLS.out, hxc, decide_eq_false hlast]; rfl)
                    clear hlast
                    go_wp2_with fail
                    go_meet
                    exact ⟨by rw [HE.out], rfl⟩
            case rest =>
              obtain ⟨rfl, rfl⟩ := hcut
              clear c0 c1 c2 c3 w6' HN1
              have HLT := hide hlt
              cases cls with
              | false =>
                have HOP := hide (show em2 = true → k + 1 < N from fun q => by
                  have := HCLS.out
                  rw [q] at this
                  simp at this
                  have := this.2
                  omega)
                have H13 := hide (H12.out.sub (List.sublist_cons_self ..))
                clear hlt H12
                go_wp2
                go_roundw
                case rel => exact ⟨k + 1, T, L', s2, em2, HLT.out, by go_num, rfl, HEM2.out, HOP.out, H13.out, OKT.out, HPE.out.1⟩
                case measure => have := HLT.out; simp [intOf]; omega
              | true =>
                have hem : em2 = true := by
                  cases em2 with
                  | true => rfl
                  | false => have := HCLS.out; simp at this
                have hne : s2.O ≠ [] := isEmpty_iff.1 (HEM2.out ▸ hem)
                have hp2 := HPE.out.1
                have HCL := hide (hp2.close (by omega) HPE.out.2 hne)
                have HBO := hide (ubound_any H12.out hp2.fine.good (hp2.fine.small (by omega)) HT.out)
                have hlt' := hp2.tx (by omega)
                have HAL := hide (fun w' (hh : UAt W w' lb s2.close rb L' ((xb, .cells 34 #[.int .i64 x.p, .int .i64 x.n, .string x.tx, .bool x.cl]) :: (tRow u9 T ++ []))) => uall_any hh (by have := hlt'.len; omega) hlt'.ok)
                have htl : T.length ≤ 22 := by have := hp2.len; have := hp2.many; omega
                clear hem hne hp2 hlt' hlt
                go_wp2_with fail
                refine Calls.mono HBO.out ?_
                rintro r w13 ⟨rfl, h13⟩
                have HAL2 := hide (HAL.out _ h13)
                clear h13 HAL HBO H12
                go_wp2_with fail
                refine Calls.mono HAL2.out ?_
                rintro r w14 ⟨rfl, h14⟩
                have H14 := hide (h14.sub (List.sublist_cons_self ..))
                clear h14 HAL2
                obtain ⟨i0, hi, hj0, hj1, hj2⟩ := info_parts info_str
                have HI := hide hi
                have HZ := hide hj0
                have HZ1 := hide hj1
                have HZ2 := hide hj2
                clear hi hj0 hj1 hj2
                have H15 := hide (H14.out.below ((Below.refl _ _).alloc (Nat.le_refl _) (.cells #[.string (strOf L')] 9)))
                have HSL := hide (H15.out.slT (fun y hy => List.mem_append_left _ hy) OKT.out)
                go_wp2_with (at_builtin; go_loud (refine wpList_append_sl rfl (.tmp 122) (.tmp 125) 32 rfl 9 i0 _ 1 16 Tryd.underlying32 HI.out HZ.out HZ1.out HZ2.out rfl u9 T.length (strs T) rfl HSL.out _ rfl 1 _ (rd_one w14 9 (.string (strOf L'))) (str_one L') ?b1 ?b2 ?_))
                case b1 => unfold maxLen; omega
                case b2 => omega
                intro v' w16 hs16 ho16 hv16
                have H16 := hide (H15.out.snocT hs16 ho16 (by simpa using hv16))
                have HOK16 := hide (show RowOk v' (T ++ [L']).length from by have := hs16.rowOk; rwa [show T.length + 1 = (T ++ [L']).length by simp] at this)
                clear hs16 ho16 hv16 HSL H15 H14 HI HZ HZ1 HZ2
                go_wp2
                go_roundw
                case rel => exact ⟨k + 1, T ++ [L'], L', s2.close, false, HLT.out, by go_num, rfl, by rw [HCL.out.2]; rfl, (fun q => by cases q), H16.out, HOK16.out, HCL.out.1⟩
                case measure => have := HLT.out; simp [intOf]; omega
      · have y1 : decide (k < N) = false := by simpa using hlt
        have y2 : decide ((k : Int) < (N : Int)) = false := by simp; omega
        cases em with
        | true => exact absurd (HL0.out rfl) hlt
        | false =>
        have hO : s1.O = [] := by have := HEM.out; simpa using this
        obtain ⟨n, hn⟩ : ∃ n, T.length = n + 1 := ⟨s1.G.length, HP.out.len⟩
        obtain ⟨hun, hgl, hn20⟩ := HP.out.turn (by omega) hO hn
        obtain rfl : tAt T n = L := (pal_lo (Nat.le_refl n)).symm.trans hun.at_
        obtain ⟨gt, ot, ct, hv9, -, -, -, -, -⟩ := (hu.slT (fun y hy => List.mem_append_left _ hy) OKT.out).at_ (by omega)
        rw [hn] at hv9
        have HGT := hide (fun (c : Nat) (hc : c ≤ n) w' s' L' R' (hh : UAt W w' lb s' rb L' (R' ++ (tRow u9 T ++ []))) => (show w'.cell? ⟨gt, ot + c, none⟩ = some (.string (strOf (tAt T c))) from by
          obtain ⟨gt', ot', ct', hv', -, -, hcell, -, -⟩ := (hh.slT (v := u9) (T := T) (fun y hy => List.mem_append_right _ (List.mem_append_left _ hy)) OKT.out).at_ (by omega)
          rw [hv9] at hv'
          injection hv' with e1 _ _
          injection e1 with e1
          injection e1 with e1 e2
          subst e1 e2
          exact hcell c _ (strs_at (by omega))))
        have HTX := hide (fun c (hc : c ≤ n) => HP.out.all _ (tAt_mem (T := T) (k := c) (by omega)))
        have HU := hide hu
        have HUN := hide hun
        have HGL := hide hgl
        obtain ⟨tv, htv⟩ : ∃ tv, tv = u9 := ⟨_, rfl⟩
        rw [← htv] at HGT HU hv9
        clear hu hun hgl hO OKT HP HEM HL0 hlt hn
        subst htv
        subst hv9
        obtain ⟨tv, htv⟩ : ∃ tv, tv = Value.slice (some ⟨gt, ot, none⟩) (n + 1) ct := ⟨_, rfl⟩
        rw [← htv] at HGT HU
        clear htv
        have ww1 : IntKind.i64.wrap ((n : Int) + 1 - 1) = (n : Int) := by rw [show (n : Int) + 1 - 1 = (n : Int) by omega]; exact IntWalk.i64_in _ (by omega)
        obtain ⟨z0, hz0⟩ : ∃ z0 : Int, z0 = (n : Int) - 1 := ⟨_, rfl⟩
        have ww2 : IntKind.i64.wrap ((n : Int) - 1) = z0 := by rw [IntWalk.i64_in _ (by omega)]; exact hz0.symm
        have HZ0 := hide hz0
        clear hz0
        go_wp2
        go_loopw [16] (fun i wr => ∃ (c : Nat) (z : Int) (s2 : Lg) (K : Nat), i = .int .i64 z ∧ z = (c : Int) - 1 ∧ c ≤ n ∧ UAt W wr lb s2 rb (tAt T c) (tRow tv T ++ []) ∧ Un s2 (pal n T) (tAt T c) c K 80 ∧ s2.G.length = n + (n - c) ∧ (c < n → s2.ch = (c : Int))) (fun i _ => (intOf i + 1).toNat)
        case atStart => exact ⟨n, z0, s1, _, rfl, HZ0.out, Nat.le_refl _, HU.out, HUN.out, by have := HGL.out; omega, fun q => absurd q (by omega)⟩
        case round =>
          clear HU HUN HGL
          obtain ⟨c, z, s2, K, rfl, hz, hcn0, hu, hun, hgl, hch⟩ := hrel
          by_cases hc0 : c = 0
          · subst hc0
            have y3 : decide ((0 : Int) ≤ z) = false := by simp; omega
            obtain ⟨ag, hag⟩ : ∃ ag, ag = decide (0 < n) := ⟨_, rfl⟩
            have y4 : decide ((0 : Int) < (n : Int)) = ag := by rw [hag]; simp
            have y4' : decide (0 < n) = ag := hag.symm
            obtain ⟨m1, m2, hun3, hgl3⟩ := hun.middle hgl hch ag hag
            have HUC := hide (show Calls Tryd.prog 18 #[.pointer (some ⟨lb, 0, none⟩), .bool ag] wr (fun e w' => ∃ v, e = .returned (.tuple #[v, .int .i64 13]) ∧ UAt W w' lb (s2.undo ag) rb (tAt T 0) (chgRow v [] ++ (tRow tv T ++ [])) ∧ RowOk v ([] : List Chg).length) from by
              have := uundo_any hu hun.fine.good (hun.fine.small (by have := hun.cnt; omega)) HT.out (hun.fine.many (by have := hun.cnt; omega)) ag
              rwa [m1, m2] at this)
            have HUN := hide hun3
            have HGL := hide hgl3
            clear hag hu hun hun3 hgl hgl3 hch hcn0 m1 m2 ww1 ww2 HZ0 hz
            go_wp2_with fail
            refine Calls.mono HUC.out ?_
            rintro r5 w5 ⟨v5, rfl, h5, -⟩
            have H5 := hide (h5.sub (List.sublist_append_right _ _))
            clear h5 HUC
            go_wp2
            go_loopw [21] (fun i wr => ∃ (j : Nat) (s3 : Lg) (K : Nat), i = .int .i64 ((j : Int) + 1) ∧ j ≤ n ∧ UAt W wr lb s3 rb (tAt T j) (tRow tv T ++ []) ∧ Un s3 (pal n T) (tAt T j) (2 * n - j) K 160 ∧ s3.G.length = 2 * n + j ∧ (0 < j → s3.ch = ((2 * n - j : Nat) : Int))) (fun i _ => (n + 1) - (intOf i).toNat)
            case atStart => exact ⟨0, _, _, rfl, Nat.zero_le _, H5.out, HUN.out, HGL.out, fun q => absurd q (by omega)⟩
            case round =>
              clear H5 HUN HGL
              obtain ⟨j, s3, K3, rfl, hj0, hu, hun, hgl, hch⟩ := hrel
              by_cases hj1 : j < n
              · have hjn : j < n := hj1
                have y5 : decide ((j : Int) + 1 ≤ (n : Int)) = true := by simp; omega
                have y5' : decide (j + 1 ≤ n) = true := by simp; omega
                have y5'' : decide (j < n) = true := by simpa using hj1
                obtain ⟨ag, hag⟩ : ∃ ag, ag = decide (0 < j) := ⟨_, rfl⟩
                have y6 : decide ((1 : Int) < (j : Int) + 1) = ag := by rw [hag]; simp; omega
                have y6' : decide (0 < j) = ag := hag.symm
                have y6'' : decide ((0 : Int) < (j : Int)) = ag := by rw [hag]; simp
                have ww3 : IntKind.i64.wrap ((j : Int) + 1 + 1) = (j : Int) + 1 + 1 := IntWalk.i64_in _ (by omega)
                have kk0 : (0 : Int) ≤ (j : Int) + 1 := by omega
                have kk1 : (j : Int) + 1 < (n : Int) + 1 := by omega
                have kk2 : ((j : Int) + 1).toNat = j + 1 := by omega
                clear hj0 hj1
                obtain ⟨r, hr, hnext⟩ := hun.round3 hgl hjn hch ag hag
                have HUC := hide (show Calls Tryd.prog 18 #[.pointer (some ⟨lb, 0, none⟩), .bool ag] wr (fun e w' => ∃ v, e = .returned (.tuple #[v, .int .i64 0]) ∧ UAt W w' lb (s3.undo ag) rb (tAt T j) (chgRow v r ++ (tRow tv T ++ [])) ∧ RowOk v r.length) from by
                  have := uundo_any hu hun.fine.good (hun.fine.small (by have := hun.cnt; omega)) HT.out (hun.fine.many (by have := hun.cnt; omega)) ag
                  rwa [hr.und, hr.err] at this)
                obtain ⟨m0, hm0⟩ : ∃ m0, r.length = m0 + 1 := ⟨r.length - 1, by have := List.length_pos_iff.2 hr.ne; omega⟩
                have HM0 := hide hm0
                have HRN := hide hr
                have HNX := hide hnext
                obtain ⟨st, hst⟩ : ∃ st, st = strOf (tAt T (j + 1)) := ⟨_, rfl⟩
                have HAL := hide (fun w' s' R' (hh : UAt W w' lb s' rb (tAt T (j + 1)) R') => (show Calls Tryd.prog 12 #[.pointer (some ⟨rb, 0, none⟩)] w' (fun e w'' => e = .returned (.string st) ∧ UAt W w'' lb s' rb (tAt T (j + 1)) R') from hst ▸ uall_any hh (by have := (HTX.out (j + 1) (by omega)).len; omega) (HTX.out (j + 1) (by omega)).ok))
                have HGC := hide (fun w' s' L' R' (hh : UAt W w' lb s' rb L' (R' ++ (tRow tv T ++ []))) => (show w'.cell? ⟨gt, ot + (j + 1), none⟩ = some (.string st) from hst ▸ HGT.out (j + 1) (by omega) w' s' L' R' hh))
                clear hr hnext hst hm0 hun hgl hch hu hag
                go_wp2_with fail
                refine Calls.mono HUC.out ?_
                rintro r5 w5 ⟨v5, rfl, h5, ok5⟩
                obtain ⟨A5, c5, hv5, _⟩ := (h5.slC ok5).form
                rw [HM0.out] at hv5
                subst hv5
                have OK5 := hide ok5
                have H5 := hide h5
                clear h5 ok5 HUC
                have hmz : (((m0 + 1 : Nat) : Int) == 0) = false := by simp; omega
                have hmz2 : decide (((m0 : Nat) : Int) + 1 = 0) = false := by simp; omega
                go_upto_region 41 with fail
                have H6 := hide (H5.out.below (Below.refl _ _).drew)
                have HTK := hide (taken_any H6.out OK5.out HRN.out.fine HRN.out.back (by have := HRN.out.small; omega) HRN.out.ne HRN.out.next HT.out)
                clear H5
                go_region_held3 (fun w' => w'.cell? ⟨gt, ot + (j + 1), none⟩ = some (.string st))
                  (first | exact HGC.out _ _ _ _ H6.out | exact HGC.out _ _ _ _ H7.out | exact HGC.out _ _ _ _ H8.out)
                  ((first
                    | (go_at_call 19; refine Calls.mono HTK.out ?_; rintro e w7 ⟨rfl, s7, h7, hf7, ho7, hc7, hg7⟩; have H7 := hide h7; have HF7 := hide (HNX.out s7 hf7 ho7 hc7 hg7); clear h7 hf7 ho7 hc7 hg7)
                    | (go_at_call 12; refine Calls.mono (HAL.out _ _ _ H7.out) ?_; rintro e w8 ⟨rfl, h8⟩; have H8 := hide h8; clear h8)))
                have H9 := hide (H8.out.sub (List.sublist_append_right _ _))
                clear H8 HTK HAL HGC HRN HNX
                go_wp2
                go_roundw
                case rel => exact ⟨j + 1, _, _, by go_num, by omega, H9.out, HF7.out.1, HF7.out.2.1, HF7.out.2.2⟩
                case measure => simp [intOf]; omega
              · have y5 : decide ((j : Int) + 1 ≤ (n : Int)) = false := by simp; omega
                have y5' : decide (j + 1 ≤ n) = false := by simp; omega
                have y5'' : decide (j < n) = false := by simpa using hj1
                have HBEL := hide hu.bel
                clear hu hun hgl hch hj1
                go_wp2
                go_ret
                exact ⟨rfl, HBEL.out⟩
          · obtain ⟨c0, rfl⟩ : ∃ c0, c = c0 + 1 := ⟨c - 1, by omega⟩
            obtain rfl : z = (c0 : Int) := by omega
            have hcn : c0 + 1 ≤ n := hcn0
            have y3 : decide ((0 : Int) ≤ (c0 : Int)) = true := by simp
            obtain ⟨ag, hag⟩ : ∃ ag, ag = decide (c0 + 1 < n) := ⟨_, rfl⟩
            have y4 : decide ((c0 : Int) < z0) = ag := by rw [hag]; have := HZ0.out; simp; omega
            have ww3 : IntKind.i64.wrap ((c0 : Int) - 1) = (c0 : Int) - 1 := IntWalk.i64_in _ (by omega)
            have kk0 : (0 : Int) ≤ (c0 : Int) := by omega
            have kk1 : (c0 : Int) < (n : Int) + 1 := by omega
            clear hz hcn0 hc0
            obtain ⟨r, hr, hnext⟩ := hun.round2 hgl hcn hch ag hag
            have HUC := hide (show Calls Tryd.prog 18 #[.pointer (some ⟨lb, 0, none⟩), .bool ag] wr (fun e w' => ∃ v, e = .returned (.tuple #[v, .int .i64 0]) ∧ UAt W w' lb (s2.undo ag) rb (tAt T (c0 + 1)) (chgRow v r ++ (tRow tv T ++ [])) ∧ RowOk v r.length) from by
              have := uundo_any hu hun.fine.good (hun.fine.small (by have := hun.cnt; omega)) HT.out (hun.fine.many (by have := hun.cnt; omega)) ag
              rwa [hr.und, hr.err] at this)
            obtain ⟨m0, hm0⟩ : ∃ m0, r.length = m0 + 1 := ⟨r.length - 1, by have := List.length_pos_iff.2 hr.ne; omega⟩
            have HM0 := hide hm0
            have HRN := hide hr
            have HNX := hide hnext
            obtain ⟨st, hst⟩ : ∃ st, st = strOf (tAt T c0) := ⟨_, rfl⟩
            have HAL := hide (fun w' s' R' (hh : UAt W w' lb s' rb (tAt T c0) R') => (show Calls Tryd.prog 12 #[.pointer (some ⟨rb, 0, none⟩)] w' (fun e w'' => e = .returned (.string st) ∧ UAt W w'' lb s' rb (tAt T c0) R') from hst ▸ uall_any hh (by have := (HTX.out (c0) (by omega)).len; omega) (HTX.out (c0) (by omega)).ok))
            have HGC := hide (fun w' s' L' R' (hh : UAt W w' lb s' rb L' (R' ++ (tRow tv T ++ []))) => (show w'.cell? ⟨gt, ot + (c0), none⟩ = some (.string st) from hst ▸ HGT.out (c0) (by omega) w' s' L' R' hh))
            clear hr hnext hst hm0 hun hgl hch hu hag
            go_wp2_with fail
            refine Calls.mono HUC.out ?_
            rintro r5 w5 ⟨v5, rfl, h5, ok5⟩
            obtain ⟨A5, c5, hv5, _⟩ := (h5.slC ok5).form
            rw [HM0.out] at hv5
            subst hv5
            have OK5 := hide ok5
            have H5 := hide h5
            clear h5 ok5 HUC
            have hmz : (((m0 + 1 : Nat) : Int) == 0) = false := by simp; omega
            have hmz2 : decide (((m0 : Nat) : Int) + 1 = 0) = false := by simp; omega
            go_upto_region 32 with fail
            have H6 := hide (H5.out.below (Below.refl _ _).drew)
            have HTK := hide (taken_any H6.out OK5.out HRN.out.fine HRN.out.back (by have := HRN.out.small; omega) HRN.out.ne HRN.out.next HT.out)
            clear H5
            go_region_held3 (fun w' => w'.cell? ⟨gt, ot + (c0), none⟩ = some (.string st))
              (first | exact HGC.out _ _ _ _ H6.out | exact HGC.out _ _ _ _ H7.out | exact HGC.out _ _ _ _ H8.out)
              ((first
                | (go_at_call 19; refine Calls.mono HTK.out ?_; rintro e w7 ⟨rfl, s7, h7, hf7, ho7, hc7, hg7⟩; have H7 := hide h7; have HF7 := hide (HNX.out s7 hf7 ho7 hc7 hg7); clear h7 hf7 ho7 hc7 hg7)
                | (go_at_call 12; refine Calls.mono (HAL.out _ _ _ H7.out) ?_; rintro e w8 ⟨rfl, h8⟩; have H8 := hide h8; clear h8)))
            have H9 := hide (H8.out.sub (List.sublist_append_right _ _))
            clear H8 HTK HAL HGC HRN HNX
            go_wp2
            go_roundw
            case rel => exact ⟨c0, _, _, _, rfl, rfl, by omega, H9.out, HF7.out.1, HF7.out.2.1, HF7.out.2.2⟩
            case measure => simp [intOf]
end Go.Proofs.YtghcmakhfdnimaaDoor

/- The acts on faces: long, played. No condition but those written. -/
import Derived.Test.YtmjogpacajbngaaFw
import Derived.Test.YtmjogpacajbngaaFy
namespace Go.Proofs.Ytmjogpacajbngaa
open Go.RowKit

structure Fac where
  ki : Int
  nm : ByteArray
  fo : Int
  ba : Int
  bo : Int
  un : Int
  iv : Int
  inh : ByteArray
@[reducible] def Fac.at_ (a : Fac) : Att := ⟨a.fo, a.ba, a.bo, a.un, a.iv, a.inh⟩
@[reducible] def Fac.cells (a : Fac) : List Value := [.int .i64 a.ki, .string a.nm, .int .i64 a.fo, .int .i64 a.ba, .int .i64 a.bo, .int .i64 a.un, .int .i64 a.iv, .string a.inh]
theorem fac_len (a : Fac) : a.cells.length = 8 := rfl
structure AtF (w : World) (g o : Nat) (a : Fac) : Prop where
  p0 : w.cell? ⟨g, o, none⟩ = some (.int .i64 a.ki)
  p1 : w.cell? ⟨g, o + 1, none⟩ = some (.string a.nm)
  p2 : w.cell? ⟨g, o + 2, none⟩ = some (.int .i64 a.fo)
  p3 : w.cell? ⟨g, o + 3, none⟩ = some (.int .i64 a.ba)
  p4 : w.cell? ⟨g, o + 4, none⟩ = some (.int .i64 a.bo)
  p5 : w.cell? ⟨g, o + 5, none⟩ = some (.int .i64 a.un)
  p6 : w.cell? ⟨g, o + 6, none⟩ = some (.int .i64 a.iv)
  p7 : w.cell? ⟨g, o + 7, none⟩ = some (.string a.inh)
theorem Rd.atF {w : World} {A : Option Addr} {n c : Nat} {l : List Fac} (h : Rd w (.slice A n c) 8 n (rows Fac.cells l)) {i : Nat} {a : Fac} (ha : l[i]? = some a) : ∃ g off, A = some ⟨g, off, none⟩ ∧ AtF w g (off + i * 8) a := by
  have hml : n = l.length := by
    obtain ⟨_, _, _, hl, _⟩ := h
    rw [rows_len fac_len] at hl
    omega
  subst hml
  obtain ⟨g', off', c', hv, hc⟩ := h.fld fac_len (by have := (List.getElem?_eq_some_iff.1 ha).1; omega)
  injection hv with e1 _ _
  subst e1
  exact ⟨g', off', rfl, hc i a 0 _ ha rfl, hc i a 1 _ ha rfl, hc i a 2 _ ha rfl, hc i a 3 _ ha rfl, hc i a 4 _ ha rfl, hc i a 5 _ ha rfl, hc i a 6 _ ha rfl, hc i a 7 _ ha rfl⟩
theorem rd_lenF {w : World} {A : Option Addr} {n c : Nat} {l : List Fac} (h : Rd w (.slice A n c) 8 n (rows Fac.cells l)) : l.length = n := by
  obtain ⟨_, _, _, hl, _⟩ := h
  rw [rows_len fac_len] at hl
  omega
theorem AtF.below {w w' : World} {g o : Nat} {a : Fac} (h : AtF w g o a) (hb : Below w.heap.size w w') : AtF w' g o a := by
  have hg : w'.heap[g]? = w.heap[g]? := hb.block g (World.block_lt_of_cell? _ _ h.p0)
  exact ⟨(World.cell?_of_block hg).trans h.p0, (World.cell?_of_block hg).trans h.p1, (World.cell?_of_block hg).trans h.p2, (World.cell?_of_block hg).trans h.p3, (World.cell?_of_block hg).trans h.p4, (World.cell?_of_block hg).trans h.p5, (World.cell?_of_block hg).trans h.p6, (World.cell?_of_block hg).trans h.p7⟩
theorem at_cells {w : World} {g o : Nat} {x : Fac} (h : AtF w g o x) : w.cell? ⟨g, o + 1, none⟩ = some (.string x.nm) ∧ w.cell? ⟨g, o + 2, none⟩ = some (.int .i64 x.fo) ∧ w.cell? ⟨g, o + 3, none⟩ = some (.int .i64 x.ba) ∧ w.cell? ⟨g, o + 4, none⟩ = some (.int .i64 x.bo) ∧ w.cell? ⟨g, o + 5, none⟩ = some (.int .i64 x.un) ∧ w.cell? ⟨g, o + 6, none⟩ = some (.int .i64 x.iv) ∧ w.cell? ⟨g, o + 7, none⟩ = some (.string x.inh) :=
  ⟨h.p1, h.p2, h.p3, h.p4, h.p5, h.p6, h.p7⟩
def bigF (a : Fac) : Bool := decide (80 < a.nm.size) || decide (80 < a.inh.size)
def longF (l : List Fac) : Bool := (l.take 61).any bigF || decide (60 < l.length)
theorem longF_no {l : List Fac} (h : longF l = false) : l.length ≤ 60 ∧ ∀ a ∈ l, a.nm.size ≤ 80 ∧ a.inh.size ≤ 80 := by
  unfold longF at h
  rw [Bool.or_eq_false_iff] at h
  have h2 : l.length ≤ 60 := by simpa using h.2
  refine ⟨h2, fun a ha => ?_⟩
  have h3 := h.1
  rw [List.take_of_length_le (by omega)] at h3
  have := List.any_eq_false.1 h3 a ha
  unfold bigF at this
  simp at this
  omega
theorem any_next {α : Type} {p : α → Bool} {l : List α} {k : Nat} {x : α} (h : l[k]? = some x) : (l.take (k + 1)).any p = ((l.take k).any p || p x) := by
  rw [take_next h, List.any_append]
  simp
theorem long_yes {l : List Fac} {k : Nat} {x : Fac} (h : l[k]? = some x) (hk : k < 61) (hb : bigF x = true) : longF l = true := by
  unfold longF
  rw [Bool.or_eq_true]
  refine .inl (List.any_eq_true.2 ⟨x, ?_, hb⟩)
  exact List.mem_of_getElem? (i := k) (by rw [List.getElem?_take, if_pos hk]; exact h)
set_option maxRecDepth 100000 in
set_option maxHeartbeats 4000000 in
theorem long_any {w : World} {A : Option Addr} {n c : Nat} {l : List Fac} (h : Rd w (.slice A n c) 8 n (rows Fac.cells l)) : Calls Try.prog 29 #[.slice A n c] w fun e w' => e = .returned (.bool (longF l)) ∧ w = w' := by
  have HL := hide (rd_lenF h)
  have HR := hide h
  clear h
  go_enter Try.func29, Try.ntmps29
  go_wp2
  go_loop [3] (fun t => ∃ k : Nat, t = .int .i64 (k : Int) ∧ k ≤ n ∧ k ≤ 61 ∧ (l.take k).any bigF = false) (fun t => n - (intOf t).toNat)
  case atStart => exact ⟨0, rfl, Nat.zero_le _, Nat.zero_le _, rfl⟩
  case round =>
    obtain ⟨k, rfl, hk, hk2, hall⟩ := hrel
    have HA := hide hall
    clear hall
    by_cases hlt : k < n
    · have y1 : decide (k < n) = true := by simpa using hlt
      have y2 : decide ((k : Int) < (n : Int)) = true := by simp; omega
      by_cases hlt2 : k < 61
      · have y3 : decide (k < 61) = true := by simpa using hlt2
        have y4 : decide ((k : Int) < 61) = true := by simp; omega
        obtain ⟨x, hx⟩ : ∃ x, l[k]? = some x := ⟨_, List.getElem?_eq_getElem (by rw [HL.out]; exact hlt)⟩
        have HX := hide hx
        obtain ⟨g, off, rfl, hat⟩ := HR.out.atF hx
        obtain ⟨p0, p1, p2, p3, p4, p5, p6, p7⟩ := hat
        clear hx
        by_cases h1 : 80 < x.nm.size
        · have z1 : decide (80 < x.nm.size) = true := by simpa using h1
          have z2 : decide ((80 : Int) < (x.nm.size : Int)) = true := by simp; omega
          have HY := hide (long_yes HX.out hlt2 (by unfold bigF; rw [z1]; rfl))
          go_wp2
          go_ret
          exact ⟨by rw [HY.out]; rfl, rfl⟩
        · have z1 : decide (80 < x.nm.size) = false := by simpa using h1
          have z2 : decide ((80 : Int) < (x.nm.size : Int)) = false := by simp; omega
          by_cases h2 : 80 < x.inh.size
          · have z3 : decide (80 < x.inh.size) = true := by simpa using h2
            have z4 : decide ((80 : Int) < (x.inh.size : Int)) = true := by simp; omega
            have HY := hide (long_yes HX.out hlt2 (by unfold bigF; rw [z3, Bool.or_true]))
            go_wp2
            go_ret
            exact ⟨by rw [HY.out]; rfl, rfl⟩
          · have z3 : decide (80 < x.inh.size) = false := by simpa using h2
            have z4 : decide ((80 : Int) < (x.inh.size : Int)) = false := by simp; omega
            have HY := hide (show (l.take (k + 1)).any bigF = false by
              rw [any_next HX.out, HA.out]
              unfold bigF
              rw [z1, z3]
              rfl)
            have HLT := hide (show k + 1 ≤ n ∧ k + 1 ≤ 61 from ⟨hlt, hlt2⟩)
            go_wp2
            go_round
            case rel => exact ⟨k + 1, by go_num, HLT.out.1, HLT.out.2, HY.out⟩
            case measure => have := HLT.out; simp [intOf]; omega
      · have y3 : decide (k < 61) = false := by simpa using hlt2
        have y4 : decide ((k : Int) < 61) = false := by simp; omega
        have y5 : decide (60 < n) = true := by simp; omega
        have y6 : decide ((60 : Int) < (n : Int)) = true := by simp; omega
        have HY := hide (show longF l = true by
          unfold longF
          rw [HL.out, y5, Bool.or_true])
        go_wp2
        go_ret
        exact ⟨by rw [HY.out]; first | rfl | simp [y5, y6], rfl⟩
    · have y1 : decide (k < n) = false := by simpa using hlt
      have y2 : decide ((k : Int) < (n : Int)) = false := by simp; omega
      have HY := hide (show longF l = decide (60 < n) by
        unfold longF
        have e : l.take k = l := List.take_of_length_le (by rw [HL.out]; omega)
        have h := HA.out
        rw [e] at h
        have h3 : (l.take 61).any bigF = false := List.any_eq_false.2 fun x hx => List.any_eq_false.1 h x (List.mem_of_mem_take hx)
        rw [h3, HL.out]
        rfl)
      by_cases h6 : 60 < n
      · have y5 : decide (60 < n) = true := by simpa using h6
        have y6 : decide ((60 : Int) < (n : Int)) = true := by simp; omega
        go_wp2
        go_ret
        exact ⟨by rw [HY.out, y5]; first | rfl | simp [y5, y6], rfl⟩
      · have y5 : decide (60 < n) = false := by simpa using h6
        have y6 : decide ((60 : Int) < (n : Int)) = false := by simp; omega
        go_wp2
        go_ret
        exact ⟨by rw [HY.out, y5]; first | rfl | simp [y5, y6], rfl⟩
noncomputable def playF (D : Fm) (l : List Fac) : Fm := l.foldl (fun D a => if a.ki = 0 then defN D a.nm a.at_ else if a.ki = 1 then dropN D a.nm else D) D
theorem playF_next {D : Fm} {l : List Fac} {k : Nat} {x : Fac} (h : l[k]? = some x) : playF D (l.take (k + 1)) = (fun D (a : Fac) => if a.ki = 0 then defN D a.nm a.at_ else if a.ki = 1 then dropN D a.nm else D) (playF D (l.take k)) x := by
  rw [take_next h]
  unfold playF
  rw [List.foldl_append]
  rfl
theorem good_play {D : Fm} (hG : GoodF D) (l : List Fac) : GoodF (playF D l) := by
  induction l generalizing D with
  | nil => exact hG
  | cons a l ih =>
    show GoodF (playF _ l)
    refine ih ?_
    show GoodF (if a.ki = 0 then defN D a.nm a.at_ else if a.ki = 1 then dropN D a.nm else D)
    split
    · exact hG.defN _ _
    · split
      · exact hG.dropN _
      · exact hG
set_option maxRecDepth 100000 in
set_option maxHeartbeats 8000000 in
theorem played_any {w : World} {A : Option Addr} {n c : Nat} {l : List Fac} (h : Rd w (.slice A n c) 8 n (rows Fac.cells l)) (hm : n < 9223372036854775807) (hl : ∀ a ∈ l, a.nm.size ≤ 80 ∧ a.inh.size ≤ 80) : Calls Try.prog 30 #[.slice A n c] w fun e w' => ∃ fb mb, e = .returned (.pointer (some ⟨fb, 0, none⟩)) ∧ FaAt w w' fb mb (playF [(dflt, attZero)] l) [] := by
  have HL := hide (rd_lenF h)
  have HR := hide h
  have HM := hide hl
  have HN := hide (new_any (Own.refl w))
  clear h hl
  go_enter Try.func30, Try.ntmps30
  go_wp2_with fail
  refine (Calls.mono (HN.out)) ?_
  rintro r w2 ⟨fb, mb, rfl, h2⟩
  have H2 := hide h2
  clear h2 HN
  go_wp2_with fail
  go_loopw [4] (fun t wr => ∃ k : Nat, t = .int .i64 (k : Int) ∧ k ≤ n ∧ FaAt w wr fb mb (playF [(dflt, attZero)] (l.take k)) []) (fun t _ => n - (intOf t).toNat)
  case atStart => exact ⟨0, rfl, Nat.zero_le _, H2.out⟩
  case round =>
    obtain ⟨k, rfl, hk, hI⟩ := hrel
    have HI := hide hI
    have HG := hide (good_play good_new (l.take k))
    clear hI
    by_cases hlt : k < n
    · have y1 : decide (k < n) = true := by simpa using hlt
      have y2 : decide ((k : Int) < (n : Int)) = true := by simp; omega
      obtain ⟨x, hx⟩ : ∃ x, l[k]? = some x := ⟨_, List.getElem?_eq_getElem (by rw [HL.out]; exact hlt)⟩
      have HP := hide (playF_next (D := [(dflt, attZero)]) hx)
      have HS := hide (HM.out x (List.mem_of_getElem? hx))
      obtain ⟨g, off, rfl, hat⟩ := HR.out.atF hx
      have HAT := hide hat
      clear hx hat
      have h1 := HAT.out.below HI.out.bel
      obtain ⟨p0, p1, p2, p3, p4, p5, p6, p7⟩ := h1
      have HLT := hide hlt
      by_cases k0 : x.ki = 0
      · have z0 : decide (x.ki = 0) = true := by simpa using k0
        have z1 : (x.ki == 0) = true := by simpa using k0
        have K0 := hide k0
        have HD := hide (Own.drew HI.out)
        have B0 := hide (Own.bel HD.out)
        have HQ := hide (fun w' hb => at_cells (HAT.out.below (w' := w') hb))
        go_wp2_with fail
        go_region_held3 (fun w' => w'.cell? ⟨g, off + k * 8 + 1, none⟩ = some (.string x.nm) ∧ w'.cell? ⟨g, off + k * 8 + 2, none⟩ = some (.int .i64 x.fo) ∧ w'.cell? ⟨g, off + k * 8 + 3, none⟩ = some (.int .i64 x.ba) ∧ w'.cell? ⟨g, off + k * 8 + 4, none⟩ = some (.int .i64 x.bo) ∧ w'.cell? ⟨g, off + k * 8 + 5, none⟩ = some (.int .i64 x.un) ∧ w'.cell? ⟨g, off + k * 8 + 6, none⟩ = some (.int .i64 x.iv) ∧ w'.cell? ⟨g, off + k * 8 + 7, none⟩ = some (.string x.inh))
          (first | exact HQ.out _ B0.out | exact HQ.out _ B1.out)
          ((first
            | (go_at_call 19; refine (define_any HD.out HG.out.ch x.nm x.at_ (by have := HS.out.1; omega) (by have := HS.out.2; show x.inh.size < _; omega)).mono ?_; rintro r w3 ⟨rfl, hb⟩; have H3 := hide hb; have B1 := hide (Own.bel hb); clear hb)))
        have C3 := (HAT.out.below B1.out).p0
        go_wp2
        go_roundw
        case rel => exact ⟨k + 1, by go_num, HLT.out, by
          rw [HP.out]
          show FaAt w w3 fb mb (if x.ki = 0 then defN _ x.nm x.at_ else if x.ki = 1 then dropN _ x.nm else _) []
          rw [if_pos K0.out]
          exact H3.out⟩
        case measure => have := HLT.out; simp [intOf]; omega
      · have z1 : (x.ki == 0) = false := by simpa using k0
        have z2 : decide (x.ki = 0) = false := by simpa using k0
        have K0 := hide k0
        clear k0
        by_cases k1 : x.ki = 1
        · have K1 := hide k1
          go_wp2_with fail
          refine Calls.mono (drop_total HI.out HG.out.d x.nm) ?_
          rintro r w3 ⟨rfl, hb⟩
          have H3 := hide hb
          clear hb
          go_wp2
          go_roundw
          case rel => exact ⟨k + 1, by go_num, HLT.out, by
            rw [HP.out]
            show FaAt w w3 fb mb (if x.ki = 0 then defN _ x.nm x.at_ else if x.ki = 1 then dropN _ x.nm else _) []
            rw [if_neg K0.out, if_pos K1.out]
            exact H3.out⟩
          case measure => have := HLT.out; simp [intOf]; omega
        · have z3 : (x.ki == 1) = false := by simpa using k1
          have z4 : decide (x.ki = 1) = false := by simpa using k1
          have K1 := hide k1
          clear k1
          go_wp2
          go_roundw
          case rel => exact ⟨k + 1, by go_num, HLT.out, by
            rw [HP.out]
            show FaAt w wr fb mb (if x.ki = 0 then defN _ x.nm x.at_ else if x.ki = 1 then dropN _ x.nm else _) []
            rw [if_neg K0.out, if_neg K1.out]
            exact HI.out⟩
          case measure => have := HLT.out; simp [intOf]; omega
    · have y1 : decide (k < n) = false := by simpa using hlt
      have y2 : decide ((k : Int) < (n : Int)) = false := by simp; omega
      have HT := hide (show l.take k = l from List.take_of_length_le (by rw [HL.out]; omega))
      go_wp2
      go_ret
      exact ⟨fb, mb, rfl, HT.out ▸ HI.out⟩
end Go.Proofs.Ytmjogpacajbngaa

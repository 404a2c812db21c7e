/- The acts on a text: light, do. No condition but those written. -/
import Derived.Test.YtbljppcaikhjhaaDoorGapFu
namespace Go.Proofs.YtbljppcaikhjhaaDoor
open Go.RowKit

/-- A call, chosen by its kind: Insert (at, tx) or Delete (at, to). -/
structure Ac where
  kd : Int
  p : Int
  q : Int
  tx : ByteArray
def Ac.cells (a : Ac) : List Value := [.int .i64 a.kd, .int .i64 a.p, .int .i64 a.q, .string a.tx]
abbrev Ac.val (a : Ac) : Value := .agg #[.int .i64 a.kd, .int .i64 a.p, .int .i64 a.q, .string a.tx]
theorem ac_len (a : Ac) : a.cells.length = 4 := rfl
def Ac.ins (a : Ac) : Prop := pickZ a.kd 3 < 2
def Ac.err (L : List Nat) (a : Ac) : Int := if pickZ a.kd 3 < 2 then insErr L a.p a.tx else delErr L a.p a.q
def Ac.act (L : List Nat) (a : Ac) : List Nat := if pickZ a.kd 3 < 2 then insL L a.p a.tx else delL L a.p a.q
def lightB (l : List Ac) : Bool := l.all (fun a => decide (a.tx.size ≤ 200)) && decide (l.length ≤ 40)
theorem lightB_iff {l : List Ac} : lightB l = true ↔ (∀ a ∈ l, a.tx.size ≤ 200) ∧ l.length ≤ 40 := by simp [lightB]
structure AtA (w : World) (g o : Nat) (a : Ac) : Prop where
  p0 : w.cell? ⟨g, o, none⟩ = some (.int .i64 a.kd)
  p1 : w.cell? ⟨g, o + 1, none⟩ = some (.int .i64 a.p)
  p2 : w.cell? ⟨g, o + 2, none⟩ = some (.int .i64 a.q)
  p3 : w.cell? ⟨g, o + 3, none⟩ = some (.string a.tx)
theorem Rd.atA {w : World} {g off n c m : Nat} {l : List Ac} (h : Rd w (.slice (some ⟨g, off, none⟩) n c) 4 m (rows Ac.cells l)) {i : Nat} {a : Ac} (ha : l[i]? = some a) : AtA w g (off + i * 4) a := by
  have hml : m = l.length := by
    obtain ⟨_, _, _, hl, _⟩ := h
    rw [rows_len ac_len] at hl
    omega
  subst hml
  obtain ⟨g', off', c', hv, hc⟩ := h.fld ac_len (by have := (List.getElem?_eq_some_iff.1 ha).1; omega)
  injection hv with e1 _ _
  injection e1 with e1
  injection e1 with e2 e3
  subst e2 e3
  exact ⟨hc i a 0 _ ha rfl, hc i a 1 _ ha rfl, hc i a 2 _ ha rfl, hc i a 3 _ ha rfl⟩
theorem Rd.some_ {w : World} {A : Option Addr} {n c k m : Nat} {xs : List Value} (h : Rd w (.slice A n c) k m xs) (hm : 0 < m) : ∃ g off, A = some ⟨g, off, none⟩ := by
  obtain ⟨A', c', e, _, hc⟩ := h
  injection e with e1 _ _
  obtain ⟨g, off, e2, _⟩ := hc hm
  exact ⟨g, off, e1.trans e2⟩
set_option maxRecDepth 100000 in
theorem light_any (l : List Ac) (v : Value) (w : World) (h : Rd w v 4 l.length (rows Ac.cells l)) (hn : l.length ≤ maxLen) : Calls Tryd.prog 12 #[v] w fun e w' => e = .returned (.bool (lightB l)) ∧ w = w' := by
  unfold maxLen at hn
  obtain ⟨A, c, rfl, _⟩ := id h
  obtain ⟨n, hnn⟩ : ∃ n, n = l.length := ⟨_, rfl⟩
  rw [← hnn] at h hn ⊢
  have HN := hide hnn
  have H := hide h
  clear h hnn
  go_enter Tryd.func12, Tryd.ntmps12
  go_wp2
  go_loop [3] (fun i => ∃ k : Nat, k ≤ n ∧ i = .int .i64 (k : Int) ∧ ∀ j a, j < k → l[j]? = some a → a.tx.size ≤ 200) (fun i => n - (intOf i).toNat)
  case atStart => exact ⟨0, Nat.zero_le _, rfl, fun j a hj => by omega⟩
  case round =>
    obtain ⟨k, hk, rfl, hall⟩ := hrel
    have HALL := hide hall
    clear hall
    by_cases hlt : k < n
    · have y1 : decide (k < n) = true := by simpa using hlt
      have y2 : decide ((k : Int) < (n : Int)) = true := by simp; omega
      obtain ⟨a, ha⟩ : ∃ a, l[k]? = some a := ⟨_, List.getElem?_eq_getElem (by rw [← HN.out]; exact hlt)⟩
      have hr : Rd w (.slice A l.length c) 4 l.length (rows Ac.cells l) := by rw [← HN.out]; exact H.out
      obtain ⟨g, off, c', hv, hc⟩ := hr.fld ac_len (by rw [← HN.out]; omega)
      obtain ⟨rfl, rfl⟩ : A = some ⟨g, off, none⟩ ∧ c = c' := by
        injection hv with e1 _ e2
        exact ⟨e1, e2⟩
      have p6 := hc k a 3 _ ha rfl
      have HA := hide ha
      have HLT := hide hlt
      clear hc hr hv ha
      by_cases hbig : 200 < a.tx.size
      · have z1 : decide (200 < a.tx.size) = true := by simpa using hbig
        have z2 : decide ((200 : Int) < (a.tx.size : Int)) = true := by simp; omega
        have HF := hide (show lightB l = false by
          cases hb : lightB l with
          | false => rfl
          | true => have := (lightB_iff.1 hb).1 a (List.mem_of_getElem? HA.out); omega)
        clear hbig
        go_wp2
        go_ret
        exact ⟨by rw [HF.out]; rfl, rfl⟩
      · have z1 : decide (200 < a.tx.size) = false := by simpa using hbig
        have z2 : decide ((200 : Int) < (a.tx.size : Int)) = false := by simp; omega
        have HS := hide (show a.tx.size ≤ 200 by omega)
        clear hbig
        go_wp2
        go_round
        case rel => exact ⟨k + 1, HLT.out, by go_num, fun j x hj hx => by
          by_cases e : j = k
          · subst e
            rw [HA.out] at hx
            cases hx
            exact HS.out
          · exact HALL.out j x (by omega) hx⟩
        case measure => have := HLT.out; simp [intOf]; omega
    · have y1 : decide (k < n) = false := by simpa using hlt
      have y2 : decide ((k : Int) < (n : Int)) = false := by simp; omega
      obtain rfl : k = n := by omega
      have HL := hide (show ∀ a ∈ l, a.tx.size ≤ 200 from fun a ha => by
        obtain ⟨j, hj⟩ := List.mem_iff_getElem?.1 ha
        exact HALL.out j a (by rw [HN.out]; exact (List.getElem?_eq_some_iff.1 hj).1) hj)
      by_cases h60 : k ≤ 40
      · have z1 : decide (k ≤ 40) = true := by simpa using h60
        have z2 : decide ((k : Int) ≤ 40) = true := by simp; omega
        have HE := hide (show lightB l = true from lightB_iff.2 ⟨HL.out, by rw [← HN.out]; exact h60⟩)
        clear h60
        go_wp2
        go_ret
        exact ⟨by rw [HE.out]; rfl, rfl⟩
      · have z1 : decide (k ≤ 40) = false := by simpa using h60
        have z2 : decide ((k : Int) ≤ 40) = false := by simp; omega
        have HE := hide (show lightB l = false by
          cases hb : lightB l with
          | false => rfl
          | true => exact absurd (lightB_iff.1 hb).2 (by rw [← HN.out]; exact h60))
        clear h60
        go_wp2
        go_ret
        exact ⟨by rw [HE.out]; rfl, rfl⟩
set_option maxRecDepth 100000 in
set_option maxHeartbeats 4000000 in
theorem do_any {W w : World} {tb : Nat} {L : List Nat} {R : Heap} (h : Txt W w tb L R) (hT : Tabs W) (a : Ac) (hs : a.tx.size < 9223372036854775807) : Calls Tryd.prog 17 #[.pointer (some ⟨tb, 0, none⟩), a.val] w fun e w' => e = .returned (.int .i64 (a.err L)) ∧ Txt W w' tb (a.act L) R := by
  obtain ⟨kd, p, q, tx⟩ := a
  have HX := hide (h.below ((Below.refl _ w).alloc (Nat.le_refl _) (.cells #[.int .i64 kd, .int .i64 p, .int .i64 q, .string tx] 31)))
  have HP := hide (fun w => pick_any kd 3 w (by omega) (by omega))
  have HT := hide hT
  have HS := hide hs
  have HE := hide (show Ac.err L ⟨kd, p, q, tx⟩ = if pickZ kd 3 < 2 then insErr L p tx else delErr L p q from rfl)
  have HA := hide (show Ac.act L ⟨kd, p, q, tx⟩ = if pickZ kd 3 < 2 then insL L p tx else delL L p q from rfl)
  clear h hT hs
  by_cases hk : pickZ kd 3 < 2
  · obtain ⟨k, hk2⟩ : ∃ k, k = pickZ kd 3 := ⟨_, rfl⟩
    rw [if_pos hk] at HE HA
    rw [← hk2] at hk HP
    have z1 : decide (k < 2) = true := by simpa using hk
    clear hk hk2
    go_enter Tryd.func17, Tryd.ntmps17
    go_wp2_with fail
    refine Calls.mono (HP.out _) ?_
    rintro r w2 ⟨rfl, rfl⟩
    go_wp2_with fail
    refine (Calls.mono (insert_any HX.out HT.out p tx HS.out)) ?_
    rintro r w3 ⟨rfl, h3⟩
    have H3 := hide h3
    clear h3
    go_wp2
    go_ret
    exact ⟨by rw [HE.out]; rfl, by rw [HA.out]; exact H3.out⟩
  · obtain ⟨k, hk2⟩ : ∃ k, k = pickZ kd 3 := ⟨_, rfl⟩
    rw [if_neg hk] at HE HA
    rw [← hk2] at hk HP
    have z1 : decide (k < 2) = false := by simpa using hk
    clear hk hk2
    go_enter Tryd.func17, Tryd.ntmps17
    go_wp2_with fail
    refine Calls.mono (HP.out _) ?_
    rintro r w2 ⟨rfl, rfl⟩
    go_wp2_with fail
    refine (Calls.mono (delete_any HX.out p q)) ?_
    rintro r w3 ⟨rfl, h3⟩
    have H3 := hide h3
    clear h3
    go_wp2
    go_ret
    exact ⟨by rw [HE.out]; rfl, by rw [HA.out]; exact H3.out⟩
end Go.Proofs.YtbljppcaikhjhaaDoor

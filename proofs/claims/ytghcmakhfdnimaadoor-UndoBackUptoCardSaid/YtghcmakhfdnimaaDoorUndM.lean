/- The walks of the small functions of the laws: insert, remove, light, lives. No condition but those written. -/
import Derived.Test.YtghcmakhfdnimaaDoorUndP
namespace Go.Proofs.YtghcmakhfdnimaaDoor
open Go.RowKit

def insC (a t : Int) : Chg := ⟨1, a, t, 0, 0, ⟨#[]⟩, 0, 0, false⟩
def remC (a : Int) (s : ByteArray) : Chg := ⟨2, a, 0, 0, 0, s, 0, 0, false⟩
theorem insert_any (a t : Int) (w : World) : Calls Tryd.prog 27 #[.int .i64 a, .int .i64 t] w fun e w' => e = .returned (insC a t).val ∧ Below w.heap.size w w' := by
  go_enter Tryd.func27, Tryd.ntmps27
  go_wp2
  refine bodyPost_ret (v := (insC a t).val) ?_ rfl ⟨rfl, (Below.refl _ _).alloc (Nat.le_refl _) _⟩
  simp [results, Tryd.results27, go_sem, Chg.val, insC]
theorem remove_any (a : Int) (s : ByteArray) (w : World) : Calls Tryd.prog 29 #[.int .i64 a, .string s] w fun e w' => e = .returned (remC a s).val ∧ Below w.heap.size w w' := by
  go_enter Tryd.func29, Tryd.ntmps29
  go_wp2
  refine bodyPost_ret (v := (remC a s).val) ?_ rfl ⟨rfl, (Below.refl _ _).alloc (Nat.le_refl _) _⟩
  simp [results, Tryd.results29, go_sem, Chg.val, remC]

structure Acn where
  kd : Int
  c : Chg
  ag : Bool
def Acn.cells (a : Acn) : List Value := [.int .i64 a.kd, .int .i64 a.c.k, .int .i64 a.c.a, .int .i64 a.c.t, .int .i64 a.c.id, .int .i64 a.c.nm, .string a.c.tx, .int .i64 a.c.vk, .int .i64 a.c.vn, .bool a.c.had, .bool a.ag]
theorem act_len (a : Acn) : a.cells.length = 11 := rfl
def lightB (l : List Acn) : Bool := l.all (fun a => decide (a.c.tx.size ≤ 200)) && decide (l.length ≤ 60)
theorem lightB_iff {l : List Acn} : lightB l = true ↔ (∀ a ∈ l, a.c.tx.size ≤ 200) ∧ l.length ≤ 60 := by simp [lightB]
set_option maxRecDepth 100000 in
theorem light_any (l : List Acn) (v : Value) (w : World) (h : Rd w v 11 l.length (rows Acn.cells l)) (hn : l.length ≤ maxLen) : Calls Tryd.prog 20 #[v] w fun e w' => e = .returned (.bool (lightB l)) ∧ w = w' := by
  unfold maxLen at hn
  obtain ⟨A, c, rfl, _⟩ := id h
  obtain ⟨n, hnn⟩ : ∃ n, n = l.length := ⟨_, rfl⟩
  rw [← hnn] at h hn ⊢
  have HN := hide hnn
  have H := hide h
  clear h hnn
  go_enter Tryd.func20, Tryd.ntmps20
  go_wp2
  go_loop [3] (fun i => ∃ k : Nat, k ≤ n ∧ i = .int .i64 (k : Int) ∧ ∀ j a, j < k → l[j]? = some a → a.c.tx.size ≤ 200) (fun i => n - (intOf i).toNat)
  case atStart => exact ⟨0, Nat.zero_le _, rfl, fun j a hj => by omega⟩
  case round =>
    obtain ⟨k, hk, rfl, hall⟩ := hrel
    have HALL := hide hall
    clear hall
    by_cases hlt : k < n
    · have y1 : decide (k < n) = true := by simpa using hlt
      have y2 : decide ((k : Int) < (n : Int)) = true := by simp; omega
      obtain ⟨a, ha⟩ : ∃ a, l[k]? = some a := ⟨_, List.getElem?_eq_getElem (by rw [← HN.out]; exact hlt)⟩
      have hr : Rd w (.slice A l.length c) 11 l.length (rows Acn.cells l) := by rw [← HN.out]; exact H.out
      obtain ⟨g, off, c', hv, hc⟩ := hr.fld act_len (by rw [← HN.out]; omega)
      obtain ⟨rfl, rfl⟩ : A = some ⟨g, off, none⟩ ∧ c = c' := by
        injection hv with e1 _ e2
        exact ⟨e1, e2⟩
      have p6 := hc k a 6 _ ha rfl
      have HA := hide ha
      have HLT := hide hlt
      clear hc hr hv ha
      by_cases hbig : 200 < a.c.tx.size
      · have z1 : decide (200 < a.c.tx.size) = true := by simpa using hbig
        have z2 : decide ((200 : Int) < (a.c.tx.size : Int)) = true := by simp; omega
        have HF := hide (show lightB l = false by
          cases hb : lightB l with
          | false => rfl
          | true => have := (lightB_iff.1 hb).1 a (List.mem_of_getElem? HA.out); omega)
        clear hbig
        go_wp2
        go_ret
        exact ⟨by rw [HF.out]; rfl, rfl⟩
      · have z1 : decide (200 < a.c.tx.size) = false := by simpa using hbig
        have z2 : decide ((200 : Int) < (a.c.tx.size : Int)) = false := by simp; omega
        have HS := hide (show a.c.tx.size ≤ 200 by omega)
        clear hbig
        go_wp2
        go_round
        case rel => exact ⟨k + 1, HLT.out, by go_num, fun j x hj hx => by
          by_cases e : j = k
          · subst e
            rw [HA.out] at hx
            cases hx
            exact HS.out
          · exact HALL.out j x (by omega) hx⟩
        case measure => have := HLT.out; simp [intOf]; omega
    · have y1 : decide (k < n) = false := by simpa using hlt
      have y2 : decide ((k : Int) < (n : Int)) = false := by simp; omega
      obtain rfl : k = n := by omega
      have HL := hide (show ∀ a ∈ l, a.c.tx.size ≤ 200 from fun a ha => by
        obtain ⟨j, hj⟩ := List.mem_iff_getElem?.1 ha
        exact HALL.out j a (by rw [HN.out]; exact (List.getElem?_eq_some_iff.1 hj).1) hj)
      by_cases h60 : k ≤ 60
      · have z1 : decide (k ≤ 60) = true := by simpa using h60
        have z2 : decide ((k : Int) ≤ 60) = true := by simp; omega
        have HF := hide (show lightB l = true from lightB_iff.2 ⟨HL.out, by rw [← HN.out]; exact h60⟩)
        go_wp2
        go_ret
        exact ⟨by rw [HF.out]; rfl, rfl⟩
      · have z1 : decide (k ≤ 60) = false := by simpa using h60
        have z2 : decide ((k : Int) ≤ 60) = false := by simp; omega
        have HF := hide (show lightB l = false by
          cases hb : lightB l with
          | false => rfl
          | true => have := (lightB_iff.1 hb).2; rw [← HN.out] at this; omega)
        go_wp2
        go_ret
        exact ⟨by rw [HF.out]; rfl, rfl⟩

/-! ### The examples of the chapter -/
def bB : ByteArray := ⟨#[98]⟩
theorem lv1 : (Lg.new 100).add (insC 1 3) = ⟨100, [], [insC 1 3], -1, 1, 1⟩ := by kernel_rfl
theorem lv2 : (⟨100, [], [insC 1 3], -1, 1, 1⟩ : Lg).add (insC 3 4) = ⟨100, [], [insC 1 4], -1, 1, 1⟩ := by kernel_rfl
theorem lv3 : (⟨100, [], [insC 1 4], -1, 1, 1⟩ : Lg).close = ⟨100, [[insC 1 4]], [], -1, 1, 0⟩ := by kernel_rfl
theorem lv4 : (⟨100, [[insC 1 4]], [], -1, 1, 0⟩ : Lg).add (remC 2 bB) = ⟨100, [[insC 1 4]], [remC 2 bB], -1, 3, 2⟩ := by kernel_rfl
theorem lv5 : (⟨100, [[insC 1 4]], [remC 2 bB], -1, 3, 2⟩ : Lg).undo false = ⟨100, [[insC 1 4], [remC 2 bB]], [], 1, 3, 0⟩ := by kernel_rfl
theorem lv6 : (⟨100, [[insC 1 4], [remC 2 bB]], [], 1, 3, 0⟩ : Lg).undo true = ⟨100, [[insC 1 4], [remC 2 bB]], [], 0, 3, 0⟩ := by kernel_rfl
theorem lu5 : (⟨100, [[insC 1 4]], [remC 2 bB], -1, 3, 2⟩ : Lg).undone false = [remC 2 bB] ∧ (⟨100, [[insC 1 4]], [remC 2 bB], -1, 3, 2⟩ : Lg).undoErr false = 0 := ⟨by kernel_rfl, by kernel_rfl⟩
theorem lu6 : (⟨100, [[insC 1 4], [remC 2 bB]], [], 1, 3, 0⟩ : Lg).undone true = [insC 1 4] ∧ (⟨100, [[insC 1 4], [remC 2 bB]], [], 1, 3, 0⟩ : Lg).undoErr true = 0 := ⟨by kernel_rfl, by kernel_rfl⟩
theorem lu7 : (⟨100, [[insC 1 4], [remC 2 bB]], [], 0, 3, 0⟩ : Lg).undoErr true = 13 := by kernel_rfl
theorem lu8 : (⟨100, [[insC 1 4], [remC 2 bB]], [], 0, 3, 0⟩ : Lg).undone true = [] := by kernel_rfl
theorem lc1 : (insC 1 3).check = 0 := by kernel_rfl
theorem lc2 : (insC 3 4).check = 0 := by kernel_rfl
theorem lc3 : (remC 2 bB).check = 0 := by kernel_rfl
end Go.Proofs.YtghcmakhfdnimaaDoor

/- copyistkit.Pick. No condition but those written. -/
import Derived.Test.YtnbhejbpofjamaaGreatDoorBfb
import Derived.Test.YtnbhejbpofjamaaGreatDoorBmo
namespace Go.Proofs.YtnbhejbpofjamaaGreatDoor
open Go.RowKit

/-- What Pick returns. -/
def pickZ (n k : Int) : Int := if n.tmod k < 0 then n.tmod k + k else n.tmod k
theorem pickZ_ge {n k : Int} (hk : 0 < k) : 0 ≤ pickZ n k := by
  have := Int.lt_tmod_of_pos n hk
  unfold pickZ
  split <;> omega
theorem pickZ_lt {n k : Int} (hk : 0 < k) : pickZ n k < k := by
  have := Int.tmod_lt_of_pos n hk
  unfold pickZ
  split <;> omega
theorem pick_any (n k : Int) (w : World) (hk : 0 < k) (hk2 : k ≤ 100000) : Calls Tryz.prog 18 #[.int .i64 n, .int .i64 k] w fun e w' => e = .returned (.int .i64 (pickZ n k)) ∧ w = w' := by
  have hz : decide (k ≤ 0) = false := by simp; omega
  have b1 := Int.lt_tmod_of_pos n hk
  have b2 := Int.tmod_lt_of_pos n hk
  by_cases h : n.tmod k < 0
  · have hz2 : decide (n.tmod k < 0) = true := by simpa using h
    have HP := hide (show pickZ n k = n.tmod k + k by unfold pickZ; rw [if_pos h])
    go_enter Tryz.func18, Tryz.ntmps18
    go_wp2
    go_ret
    exact ⟨by rw [HP.out]; rfl, rfl⟩
  · have hz2 : decide (n.tmod k < 0) = false := by simpa using h
    have HP := hide (show pickZ n k = n.tmod k by unfold pickZ; rw [if_neg h])
    go_enter Tryz.func18, Tryz.ntmps18
    go_wp2
    go_ret
    exact ⟨by rw [HP.out]; rfl, rfl⟩
end Go.Proofs.YtnbhejbpofjamaaGreatDoor
namespace Go.Proofs.YtnbhejbpofjamaaGreatDoor
open Go.RowKit

structure Ab where
  k : Int
  id : Int
  n : ByteArray
def Ab.cells (a : Ab) : List Value := [.int .i64 a.k, .int .i64 a.id, .string a.n]
abbrev Ab.val (a : Ab) : Value := .agg #[.int .i64 a.k, .int .i64 a.id, .string a.n]
def Ab.p (a : Ab) : Int := pickZ a.k 9
def insE (s : Bst) (tx : Nat → Bz) (a : Ab) : Int := match fndB s.all a.id with
  | some x => fitE (tx x.b).L a.n
  | none => 8
def insT (s : Bst) (tx : Nat → Bz) (a : Ab) : Nat → Bz := match fndB s.all a.id with
  | some x => upd tx x.b (insB (tx x.b) a.n)
  | none => tx
/-- The number and the error that do returns. -/
def doI (s : Bst) (a : Ab) : Int := if a.p ≤ 1 then (if creE s a.n = 0 then (s.next : Int) else 0) else 0
def doE (s : Bst) (tx : Nat → Bz) (a : Ab) : Int :=
  if a.p ≤ 1 then creE s a.n else if a.p = 2 then kilE s a.id else if a.p = 3 then renE s a.id a.n else if a.p = 8 then insE s tx a else knownE s.all a.id
/-- What do makes of the set. -/
def DoR (s : Bst) (tx : Nat → Bz) (a : Ab) (s' : Bst) (tx' : Nat → Bz) : Prop :=
  if a.p ≤ 1 then (creE s a.n ≠ 0 → s' = s ∧ tx' = tx) ∧ (creE s a.n = 0 → ∃ g bp, bp ∉ s.all.map Nb.b ∧ s' = addS s a.n g bp ∧ tx' = upd tx bp ⟨[], 0, s.p, s.q, s.r⟩)
  else if a.p = 2 then s' = (if kilE s a.id = 0 then kilS s a.id.toNat else s) ∧ tx' = tx
  else if a.p = 3 then s' = (if renE s a.id a.n = 0 then renS s a.id a.n else s) ∧ tx' = tx
  else if a.p = 4 then s' = (if knownE s.all a.id = 0 then s.withCur a.id.toNat else s) ∧ tx' = tx
  else if a.p = 7 then s' = (if knownE s.all a.id = 0 then burS s a.id.toNat else s) ∧ tx' = tx
  else if a.p = 8 then s' = s ∧ tx' = insT s tx a
  else s' = (if knownE s.all a.id = 0 then swiS s a.id.toNat else s) ∧ tx' = tx
def Done (W : World) (sb : Nat) (s : Bst) (tx : Nat → Bz) (k : Nat) (R : Heap) (a : Ab) (e : Ending) (w' : World) : Prop :=
  e = .returned (.tuple #[.int .i64 (doI s a), .int .i64 (doE s tx a)]) ∧ ∃ s' tx', DoR s tx a s' tx' ∧ LZ W w' sb s' tx' (k + 1) R
theorem Ab.cases (a : Ab) : a.p = 0 ∨ a.p = 1 ∨ a.p = 2 ∨ a.p = 3 ∨ a.p = 4 ∨ a.p = 5 ∨ a.p = 6 ∨ a.p = 7 ∨ a.p = 8 := by
  have h1 := pickZ_ge (n := a.k) (k := 9) (by decide)
  have h2 := pickZ_lt (n := a.k) (k := 9) (by decide)
  unfold Ab.p
  omega
theorem Ab.pick (a : Ab) {j : Int} (h : a.p = j) (w : World) : Calls Tryz.prog 18 #[.int .i64 a.k, .int .i64 9] w fun e w' => e = .returned (.int .i64 j) ∧ w = w' := by
  rw [← h]
  exact pick_any a.k 9 w (by decide) (by decide)
section
variable {W w w' : World} {sb : Nat} {s : Bst} {tx : Nat → Bz} {k : Nat} {R : Heap}
set_option maxRecDepth 100000 in
set_option maxHeartbeats 4000000 in
theorem do_0 (h : LZ W w sb s tx k R) (hR : Rules W) (hk : k ≤ 400) (a : Ab) (hn : a.n.size ≤ 300) (hp : a.p = 0) : Calls Tryz.prog 11 #[.pointer (some ⟨sb, 0, none⟩), a.val] w (Done W sb s tx k R a) := by
  have H := hide (h.below (below_box w (.cells #[.int .i64 a.k, .int .i64 a.id, .string a.n] 31)))
  have HPK := hide (fun w => a.pick hp w)
  have HR := hide hR
  have HN := hide hn
  have HK := hide hk
  have HV := hide (show doI s a = (if creE s a.n = 0 then (s.next : Int) else 0) ∧ doE s tx a = creE s a.n from by
    refine ⟨?_, ?_⟩
    · unfold doI; rw [hp]; rfl
    · unfold doE; rw [hp]; rfl)
  have HD := hide (show ∀ s' tx', ((creE s a.n ≠ 0 → s' = s ∧ tx' = tx) ∧ (creE s a.n = 0 → ∃ g bp, bp ∉ s.all.map Nb.b ∧ s' = addS s a.n g bp ∧ tx' = upd tx bp ⟨[], 0, s.p, s.q, s.r⟩)) → DoR s tx a s' tx' from fun s' tx' h9 => by
    unfold DoR; rw [hp]; exact h9)
  obtain ⟨ak, ai, an⟩ := a
  simp only [] at HPK HN HV HD
  clear h hR hk hn hp
  go_enter Tryz.func11, Tryz.ntmps11
  go_wp2_with fail
  refine Calls.mono (HPK.out _) ?_
  rintro e w1 ⟨rfl, rfl⟩
  go_wp2_with fail
  refine Calls.mono (H.out.create HR.out.tabs HK.out an (by have := HN.out; omega)) ?_
  rintro e w2 ⟨rfl, h2, h3⟩
  have H2 := hide h2
  have H3 := hide h3
  clear h2 h3
  obtain ⟨E, hE⟩ : ∃ E, E = creE s an := ⟨_, rfl⟩
  obtain ⟨I, hI⟩ : ∃ I : Int, I = (if creE s an = 0 then (s.next : Int) else 0) := ⟨_, rfl⟩
  rw [← hI, ← hE] at HV
  rw [← hI, ← hE]
  have HE := hide hE
  clear hE hI
  go_wp2_with fail
  go_ret2
  refine ⟨by rw [HV.out.1, HV.out.2]; rfl, ?_⟩
  by_cases h0 : creE s an = 0
  · obtain ⟨g, bp, h4, h5⟩ := H3.out h0
    exact ⟨_, _, HD.out _ _ ⟨fun h9 => absurd h0 h9, fun _ => ⟨g, bp, h4, rfl, rfl⟩⟩, h5⟩
  · exact ⟨s, tx, HD.out _ _ ⟨fun _ => ⟨rfl, rfl⟩, fun h9 => absurd h9 h0⟩, H2.out h0⟩
set_option maxRecDepth 100000 in
set_option maxHeartbeats 4000000 in
theorem do_1 (h : LZ W w sb s tx k R) (hR : Rules W) (hk : k ≤ 400) (a : Ab) (hn : a.n.size ≤ 300) (hp : a.p = 1) : Calls Tryz.prog 11 #[.pointer (some ⟨sb, 0, none⟩), a.val] w (Done W sb s tx k R a) := by
  have H := hide (h.below (below_box w (.cells #[.int .i64 a.k, .int .i64 a.id, .string a.n] 31)))
  have HPK := hide (fun w => a.pick hp w)
  have HR := hide hR
  have HN := hide hn
  have HK := hide hk
  have HV := hide (show doI s a = (if creE s a.n = 0 then (s.next : Int) else 0) ∧ doE s tx a = creE s a.n from by
    refine ⟨?_, ?_⟩
    · unfold doI; rw [hp]; rfl
    · unfold doE; rw [hp]; rfl)
  have HD := hide (show ∀ s' tx', ((creE s a.n ≠ 0 → s' = s ∧ tx' = tx) ∧ (creE s a.n = 0 → ∃ g bp, bp ∉ s.all.map Nb.b ∧ s' = addS s a.n g bp ∧ tx' = upd tx bp ⟨[], 0, s.p, s.q, s.r⟩)) → DoR s tx a s' tx' from fun s' tx' h9 => by
    unfold DoR; rw [hp]; exact h9)
  obtain ⟨ak, ai, an⟩ := a
  simp only [] at HPK HN HV HD
  clear h hR hk hn hp
  go_enter Tryz.func11, Tryz.ntmps11
  go_wp2_with fail
  refine Calls.mono (HPK.out _) ?_
  rintro e w1 ⟨rfl, rfl⟩
  go_wp2_with fail
  refine Calls.mono (H.out.create HR.out.tabs HK.out an (by have := HN.out; omega)) ?_
  rintro e w2 ⟨rfl, h2, h3⟩
  have H2 := hide h2
  have H3 := hide h3
  clear h2 h3
  obtain ⟨E, hE⟩ : ∃ E, E = creE s an := ⟨_, rfl⟩
  obtain ⟨I, hI⟩ : ∃ I : Int, I = (if creE s an = 0 then (s.next : Int) else 0) := ⟨_, rfl⟩
  rw [← hI, ← hE] at HV
  rw [← hI, ← hE]
  have HE := hide hE
  clear hE hI
  go_wp2_with fail
  go_ret2
  refine ⟨by rw [HV.out.1, HV.out.2]; rfl, ?_⟩
  by_cases h0 : creE s an = 0
  · obtain ⟨g, bp, h4, h5⟩ := H3.out h0
    exact ⟨_, _, HD.out _ _ ⟨fun h9 => absurd h0 h9, fun _ => ⟨g, bp, h4, rfl, rfl⟩⟩, h5⟩
  · exact ⟨s, tx, HD.out _ _ ⟨fun _ => ⟨rfl, rfl⟩, fun h9 => absurd h9 h0⟩, H2.out h0⟩
set_option maxRecDepth 100000 in
set_option maxHeartbeats 4000000 in
theorem do_2 (h : LZ W w sb s tx k R) (hR : Rules W) (hk : k ≤ 400) (a : Ab) (hn : a.n.size ≤ 300) (hp : a.p = 2) : Calls Tryz.prog 11 #[.pointer (some ⟨sb, 0, none⟩), a.val] w (Done W sb s tx k R a) := by
  have H := hide (h.below (below_box w (.cells #[.int .i64 a.k, .int .i64 a.id, .string a.n] 31)))
  have HPK := hide (fun w => a.pick hp w)
  have HR := hide hR
  have HN := hide hn
  have HK := hide hk
  have HV := hide (show doI s a = 0 ∧ doE s tx a = kilE s a.id ∧ DoR s tx a (if kilE s a.id = 0 then kilS s a.id.toNat else s) tx from by
    refine ⟨?_, ?_, ?_⟩
    · unfold doI; rw [hp]; rfl
    · unfold doE; rw [hp]; rfl
    · unfold DoR; rw [hp]; exact ⟨rfl, rfl⟩)
  obtain ⟨ak, ai, an⟩ := a
  simp only [] at HPK HN HV
  clear h hR hk hn hp
  go_enter Tryz.func11, Tryz.ntmps11
  go_wp2_with fail
  refine Calls.mono (HPK.out _) ?_
  rintro e w1 ⟨rfl, rfl⟩
  go_wp2_with fail
  refine Calls.mono (H.out.kill (by have := HK.out; omega) ai) ?_
  rintro e w2 ⟨rfl, h2⟩
  have H2 := hide h2
  clear h2
  go_wp2_with fail
  go_ret2
  refine ⟨?_, _, _, HV.out.2.2, H2.out⟩
  rw [HV.out.1, HV.out.2.1]
  rfl
set_option maxRecDepth 100000 in
set_option maxHeartbeats 4000000 in
theorem do_3 (h : LZ W w sb s tx k R) (hR : Rules W) (hk : k ≤ 400) (a : Ab) (hn : a.n.size ≤ 300) (hp : a.p = 3) : Calls Tryz.prog 11 #[.pointer (some ⟨sb, 0, none⟩), a.val] w (Done W sb s tx k R a) := by
  have H := hide (h.below (below_box w (.cells #[.int .i64 a.k, .int .i64 a.id, .string a.n] 31)))
  have HPK := hide (fun w => a.pick hp w)
  have HR := hide hR
  have HN := hide hn
  have HK := hide hk
  have HV := hide (show doI s a = 0 ∧ doE s tx a = renE s a.id a.n ∧ DoR s tx a (if renE s a.id a.n = 0 then renS s a.id a.n else s) tx from by
    refine ⟨?_, ?_, ?_⟩
    · unfold doI; rw [hp]; rfl
    · unfold doE; rw [hp]; rfl
    · unfold DoR; rw [hp]; exact ⟨rfl, rfl⟩)
  obtain ⟨ak, ai, an⟩ := a
  simp only [] at HPK HN HV
  clear h hR hk hn hp
  go_enter Tryz.func11, Tryz.ntmps11
  go_wp2_with fail
  refine Calls.mono (HPK.out _) ?_
  rintro e w1 ⟨rfl, rfl⟩
  go_wp2_with fail
  refine Calls.mono (H.out.rename HR.out.tabs ai an (by have := HN.out; omega)) ?_
  rintro e w2 ⟨rfl, h2⟩
  have H2 := hide h2
  clear h2
  go_wp2_with fail
  go_ret2
  refine ⟨?_, _, _, HV.out.2.2, H2.out⟩
  rw [HV.out.1, HV.out.2.1]
  rfl
set_option maxRecDepth 100000 in
set_option maxHeartbeats 4000000 in
theorem do_4 (h : LZ W w sb s tx k R) (hR : Rules W) (hk : k ≤ 400) (a : Ab) (hn : a.n.size ≤ 300) (hp : a.p = 4) : Calls Tryz.prog 11 #[.pointer (some ⟨sb, 0, none⟩), a.val] w (Done W sb s tx k R a) := by
  have H := hide (h.below (below_box w (.cells #[.int .i64 a.k, .int .i64 a.id, .string a.n] 31)))
  have HPK := hide (fun w => a.pick hp w)
  have HR := hide hR
  have HN := hide hn
  have HK := hide hk
  have HV := hide (show doI s a = 0 ∧ doE s tx a = knownE s.all a.id ∧ DoR s tx a (if knownE s.all a.id = 0 then s.withCur a.id.toNat else s) tx from by
    refine ⟨?_, ?_, ?_⟩
    · unfold doI; rw [hp]; rfl
    · unfold doE; rw [hp]; rfl
    · unfold DoR; rw [hp]; exact ⟨rfl, rfl⟩)
  obtain ⟨ak, ai, an⟩ := a
  simp only [] at HPK HN HV
  clear h hR hk hn hp
  go_enter Tryz.func11, Tryz.ntmps11
  go_wp2_with fail
  refine Calls.mono (HPK.out _) ?_
  rintro e w1 ⟨rfl, rfl⟩
  go_wp2_with fail
  refine Calls.mono (H.out.enter ai) ?_
  rintro e w2 ⟨rfl, h2⟩
  have H2 := hide h2
  clear h2
  go_wp2_with fail
  go_ret2
  refine ⟨?_, _, _, HV.out.2.2, H2.out⟩
  rw [HV.out.1, HV.out.2.1]
  rfl
set_option maxRecDepth 100000 in
set_option maxHeartbeats 4000000 in
theorem do_5 (h : LZ W w sb s tx k R) (hR : Rules W) (hk : k ≤ 400) (a : Ab) (hn : a.n.size ≤ 300) (hp : a.p = 5) : Calls Tryz.prog 11 #[.pointer (some ⟨sb, 0, none⟩), a.val] w (Done W sb s tx k R a) := by
  have H := hide (h.below (below_box w (.cells #[.int .i64 a.k, .int .i64 a.id, .string a.n] 31)))
  have HPK := hide (fun w => a.pick hp w)
  have HR := hide hR
  have HN := hide hn
  have HK := hide hk
  have HV := hide (show doI s a = 0 ∧ doE s tx a = knownE s.all a.id ∧ DoR s tx a (if knownE s.all a.id = 0 then swiS s a.id.toNat else s) tx from by
    refine ⟨?_, ?_, ?_⟩
    · unfold doI; rw [hp]; rfl
    · unfold doE; rw [hp]; rfl
    · unfold DoR; rw [hp]; exact ⟨rfl, rfl⟩)
  obtain ⟨ak, ai, an⟩ := a
  simp only [] at HPK HN HV
  clear h hR hk hn hp
  go_enter Tryz.func11, Tryz.ntmps11
  go_wp2_with fail
  refine Calls.mono (HPK.out _) ?_
  rintro e w1 ⟨rfl, rfl⟩
  go_wp2_with fail
  refine Calls.mono (H.out.switch (by have := HK.out; omega) ai) ?_
  rintro e w2 ⟨rfl, h2⟩
  have H2 := hide h2
  clear h2
  go_wp2_with fail
  go_ret2
  refine ⟨?_, _, _, HV.out.2.2, H2.out⟩
  rw [HV.out.1, HV.out.2.1]
  rfl
set_option maxRecDepth 100000 in
set_option maxHeartbeats 4000000 in
theorem do_6 (h : LZ W w sb s tx k R) (hR : Rules W) (hk : k ≤ 400) (a : Ab) (hn : a.n.size ≤ 300) (hp : a.p = 6) : Calls Tryz.prog 11 #[.pointer (some ⟨sb, 0, none⟩), a.val] w (Done W sb s tx k R a) := by
  have H := hide (h.below (below_box w (.cells #[.int .i64 a.k, .int .i64 a.id, .string a.n] 31)))
  have HPK := hide (fun w => a.pick hp w)
  have HR := hide hR
  have HN := hide hn
  have HK := hide hk
  have HV := hide (show doI s a = 0 ∧ doE s tx a = knownE s.all a.id ∧ DoR s tx a (if knownE s.all a.id = 0 then swiS s a.id.toNat else s) tx from by
    refine ⟨?_, ?_, ?_⟩
    · unfold doI; rw [hp]; rfl
    · unfold doE; rw [hp]; rfl
    · unfold DoR; rw [hp]; exact ⟨rfl, rfl⟩)
  obtain ⟨ak, ai, an⟩ := a
  simp only [] at HPK HN HV
  clear h hR hk hn hp
  go_enter Tryz.func11, Tryz.ntmps11
  go_wp2_with fail
  refine Calls.mono (HPK.out _) ?_
  rintro e w1 ⟨rfl, rfl⟩
  go_wp2_with fail
  refine Calls.mono (H.out.switch (by have := HK.out; omega) ai) ?_
  rintro e w2 ⟨rfl, h2⟩
  have H2 := hide h2
  clear h2
  go_wp2_with fail
  go_ret2
  refine ⟨?_, _, _, HV.out.2.2, H2.out⟩
  rw [HV.out.1, HV.out.2.1]
  rfl
set_option maxRecDepth 100000 in
set_option maxHeartbeats 4000000 in
theorem do_7 (h : LZ W w sb s tx k R) (hR : Rules W) (hk : k ≤ 400) (a : Ab) (hn : a.n.size ≤ 300) (hp : a.p = 7) : Calls Tryz.prog 11 #[.pointer (some ⟨sb, 0, none⟩), a.val] w (Done W sb s tx k R a) := by
  have H := hide (h.below (below_box w (.cells #[.int .i64 a.k, .int .i64 a.id, .string a.n] 31)))
  have HPK := hide (fun w => a.pick hp w)
  have HR := hide hR
  have HN := hide hn
  have HK := hide hk
  have HV := hide (show doI s a = 0 ∧ doE s tx a = knownE s.all a.id ∧ DoR s tx a (if knownE s.all a.id = 0 then burS s a.id.toNat else s) tx from by
    refine ⟨?_, ?_, ?_⟩
    · unfold doI; rw [hp]; rfl
    · unfold doE; rw [hp]; rfl
    · unfold DoR; rw [hp]; exact ⟨rfl, rfl⟩)
  obtain ⟨ak, ai, an⟩ := a
  simp only [] at HPK HN HV
  clear h hR hk hn hp
  go_enter Tryz.func11, Tryz.ntmps11
  go_wp2_with fail
  refine Calls.mono (HPK.out _) ?_
  rintro e w1 ⟨rfl, rfl⟩
  go_wp2_with fail
  refine Calls.mono (H.out.bury (by have := HK.out; omega) ai) ?_
  rintro e w2 ⟨rfl, h2⟩
  have H2 := hide h2
  clear h2
  go_wp2_with fail
  go_ret2
  refine ⟨?_, _, _, HV.out.2.2, H2.out⟩
  rw [HV.out.1, HV.out.2.1]
  rfl
set_option maxRecDepth 100000 in
set_option maxHeartbeats 4000000 in
theorem do_8s (h : LZ W w sb s tx k R) (hR : Rules W) (hk : k ≤ 400) (a : Ab) (hn : a.n.size ≤ 300) (hp : a.p = 8) {x : Nb} (he : fndB s.all a.id = some x) : Calls Tryz.prog 11 #[.pointer (some ⟨sb, 0, none⟩), a.val] w (Done W sb s tx k R a) := by
  have H := hide (h.below (below_box w (.cells #[.int .i64 a.k, .int .i64 a.id, .string a.n] 31)))
  have HPK := hide (fun w => a.pick hp w)
  have HR := hide hR
  have HN := hide hn
  have HK := hide hk
  have HV := hide (show doI s a = 0 ∧ doE s tx a = insE s tx a ∧ DoR s tx a s (insT s tx a) from by
    refine ⟨?_, ?_, ?_⟩
    · unfold doI; rw [hp]; rfl
    · unfold doE; rw [hp]; rfl
    · unfold DoR; rw [hp]; exact ⟨rfl, rfl⟩)
  have HI := hide (show insE s tx a = fitE (tx x.b).L a.n ∧ insT s tx a = upd tx x.b (insB (tx x.b) a.n) from by
    unfold insE insT; rw [he]; exact ⟨rfl, rfl⟩)
  have HG := hide (show getR s a.id = .pointer (some ⟨x.b, 0, none⟩) from by unfold getR; rw [he])
  have HX := hide (fndB_mem he).1
  clear he
  obtain ⟨ak, ai, an⟩ := a
  simp only [] at HPK HN HV HI HG
  clear h hR hk hn hp
  go_enter Tryz.func11, Tryz.ntmps11
  go_wp2_with fail
  refine Calls.mono (HPK.out _) ?_
  rintro e w1 ⟨rfl, rfl⟩
  go_wp2_with fail
  have HGT := H.out.get ai
  rw [HG.out] at HGT
  refine Calls.mono HGT ?_
  rintro e w2 ⟨rfl, rfl⟩
  clear HGT
  go_wp2_with fail
  refine Calls.mono (H.out.insert HR.out HK.out HX.out an (by have := HN.out; omega)) ?_
  rintro e w2 ⟨rfl, h2⟩
  have H2 := hide h2
  clear h2
  go_wp2_with fail
  go_ret2
  refine ⟨?_, s, _, HV.out.2.2, ?_⟩
  · rw [HV.out.1, HV.out.2.1, HI.out.1]
    rfl
  · rw [HI.out.2]
    exact H2.out
set_option maxRecDepth 100000 in
set_option maxHeartbeats 4000000 in
theorem do_8n (h : LZ W w sb s tx k R) (hR : Rules W) (hk : k ≤ 400) (a : Ab) (hn : a.n.size ≤ 300) (hp : a.p = 8) (he : fndB s.all a.id = none) : Calls Tryz.prog 11 #[.pointer (some ⟨sb, 0, none⟩), a.val] w (Done W sb s tx k R a) := by
  have H := hide (h.below (below_box w (.cells #[.int .i64 a.k, .int .i64 a.id, .string a.n] 31)))
  have HPK := hide (fun w => a.pick hp w)
  have HR := hide hR
  have HN := hide hn
  have HK := hide hk
  have HV := hide (show doI s a = 0 ∧ doE s tx a = insE s tx a ∧ DoR s tx a s (insT s tx a) from by
    refine ⟨?_, ?_, ?_⟩
    · unfold doI; rw [hp]; rfl
    · unfold doE; rw [hp]; rfl
    · unfold DoR; rw [hp]; exact ⟨rfl, rfl⟩)
  have HI := hide (show insE s tx a = 8 ∧ insT s tx a = tx from by
    unfold insE insT; rw [he]; exact ⟨rfl, rfl⟩)
  have HG := hide (show getR s a.id = .pointer none from by unfold getR; rw [he])
  clear he
  obtain ⟨ak, ai, an⟩ := a
  simp only [] at HPK HN HV HI HG
  clear h hR hk hn hp
  go_enter Tryz.func11, Tryz.ntmps11
  go_wp2_with fail
  refine Calls.mono (HPK.out _) ?_
  rintro e w1 ⟨rfl, rfl⟩
  go_wp2_with fail
  have HGT := H.out.get ai
  rw [HG.out] at HGT
  refine Calls.mono HGT ?_
  rintro e w2 ⟨rfl, rfl⟩
  clear HGT
  go_wp2_with fail
  go_ret2
  refine ⟨?_, s, _, HV.out.2.2, ?_⟩
  · rw [HV.out.1, HV.out.2.1, HI.out.1]
    rfl
  · rw [HI.out.2]
    exact H.out.more
theorem do_any (h : LZ W w sb s tx k R) (hR : Rules W) (hk : k ≤ 400) (a : Ab) (hn : a.n.size ≤ 300) : Calls Tryz.prog 11 #[.pointer (some ⟨sb, 0, none⟩), a.val] w (Done W sb s tx k R a) := by
  rcases a.cases with hp | hp | hp | hp | hp | hp | hp | hp | hp
  · exact do_0 h hR hk a hn hp
  · exact do_1 h hR hk a hn hp
  · exact do_2 h hR hk a hn hp
  · exact do_3 h hR hk a hn hp
  · exact do_4 h hR hk a hn hp
  · exact do_5 h hR hk a hn hp
  · exact do_6 h hR hk a hn hp
  · exact do_7 h hR hk a hn hp
  · cases he : fndB s.all a.id with
    | some x => exact do_8s h hR hk a hn hp he
    | none => exact do_8n h hR hk a hn hp he
end
end Go.Proofs.YtnbhejbpofjamaaGreatDoor
namespace Go.Proofs.YtnbhejbpofjamaaGreatDoor
open Go.RowKit

theorem ac_len (a : Ab) : a.cells.length = 3 := rfl
def lightB (l : List Ab) : Bool := l.all (fun a => decide (a.n.size ≤ 300)) && decide (l.length ≤ 60)
theorem lightB_iff {l : List Ab} : lightB l = true ↔ (∀ a ∈ l, a.n.size ≤ 300) ∧ l.length ≤ 60 := by simp [lightB]
structure AtA (w : World) (g o : Nat) (a : Ab) : Prop where
  p0 : w.cell? ⟨g, o, none⟩ = some (.int .i64 a.k)
  p1 : w.cell? ⟨g, o + 1, none⟩ = some (.int .i64 a.id)
  p2 : w.cell? ⟨g, o + 2, none⟩ = some (.string a.n)
theorem Rd.atA {w : World} {g off n c m : Nat} {l : List Ab} (h : Rd w (.slice (some ⟨g, off, none⟩) n c) 3 m (rows Ab.cells l)) {i : Nat} {a : Ab} (ha : l[i]? = some a) : AtA w g (off + i * 3) a := by
  have hml : m = l.length := by
    obtain ⟨_, _, _, hl, _⟩ := h
    rw [rows_len ac_len] at hl
    omega
  subst hml
  obtain ⟨g', off', c', hv, hc⟩ := h.fld ac_len (by have := (List.getElem?_eq_some_iff.1 ha).1; omega)
  injection hv with e1 _ _
  injection e1 with e1
  injection e1 with e2 e3
  subst e2 e3
  exact ⟨hc i a 0 _ ha rfl, hc i a 1 _ ha rfl, hc i a 2 _ ha rfl⟩
theorem Rd.some_ {w : World} {A : Option Addr} {n c k m : Nat} {xs : List Value} (h : Rd w (.slice A n c) k m xs) (hm : 0 < m) : ∃ g off, A = some ⟨g, off, none⟩ := by
  obtain ⟨A', c', e, _, hc⟩ := h
  injection e with e1 _ _
  obtain ⟨g, off, e2, _⟩ := hc hm
  exact ⟨g, off, e1.trans e2⟩
set_option maxRecDepth 100000 in
theorem light_any (l : List Ab) (v : Value) (w : World) (h : Rd w v 3 l.length (rows Ab.cells l)) (hn : l.length ≤ maxLen) : Calls Tryz.prog 9 #[v] w fun e w' => e = .returned (.bool (lightB l)) ∧ w = w' := by
  unfold maxLen at hn
  obtain ⟨A, c, rfl, _⟩ := id h
  obtain ⟨n, hnn⟩ : ∃ n, n = l.length := ⟨_, rfl⟩
  rw [← hnn] at h hn ⊢
  have HN := hide hnn
  have H := hide h
  clear h hnn
  go_enter Tryz.func9, Tryz.ntmps9
  go_wp2
  go_loop [3] (fun i => ∃ k : Nat, k ≤ n ∧ i = .int .i64 (k : Int) ∧ ∀ j a, j < k → l[j]? = some a → a.n.size ≤ 300) (fun i => n - (intOf i).toNat)
  case atStart => exact ⟨0, Nat.zero_le _, rfl, fun j a hj => by omega⟩
  case round =>
    obtain ⟨k, hk, rfl, hall⟩ := hrel
    have HALL := hide hall
    clear hall
    by_cases hlt : k < n
    · have y1 : decide (k < n) = true := by simpa using hlt
      have y2 : decide ((k : Int) < (n : Int)) = true := by simp; omega
      obtain ⟨a, ha⟩ : ∃ a, l[k]? = some a := ⟨_, List.getElem?_eq_getElem (by rw [← HN.out]; exact hlt)⟩
      have hr : Rd w (.slice A l.length c) 3 l.length (rows Ab.cells l) := by rw [← HN.out]; exact H.out
      obtain ⟨g, off, c', hv, hc⟩ := hr.fld ac_len (by rw [← HN.out]; omega)
      obtain ⟨rfl, rfl⟩ : A = some ⟨g, off, none⟩ ∧ c = c' := by
        injection hv with e1 _ e2
        exact ⟨e1, e2⟩
      have p6 := hc k a 2 _ ha rfl
      have HA := hide ha
      have HLT := hide hlt
      clear hc hr hv ha
      by_cases hbig : 300 < a.n.size
      · have z1 : decide (300 < a.n.size) = true := by simpa using hbig
        have z2 : decide ((300 : Int) < (a.n.size : Int)) = true := by simp; omega
        have HF := hide (show lightB l = false by
          cases hb : lightB l with
          | false => rfl
          | true => have := (lightB_iff.1 hb).1 a (List.mem_of_getElem? HA.out); omega)
        clear hbig
        go_wp2
        go_ret
        exact ⟨by rw [HF.out]; rfl, rfl⟩
      · have z1 : decide (300 < a.n.size) = false := by simpa using hbig
        have z2 : decide ((300 : Int) < (a.n.size : Int)) = false := by simp; omega
        have HS := hide (show a.n.size ≤ 300 by omega)
        clear hbig
        go_wp2
        go_round
        case rel => exact ⟨k + 1, HLT.out, by go_num, fun j x hj hx => by
          by_cases e : j = k
          · subst e
            rw [HA.out] at hx
            cases hx
            exact HS.out
          · exact HALL.out j x (by omega) hx⟩
        case measure => have := HLT.out; simp [intOf]; omega
    · have y1 : decide (k < n) = false := by simpa using hlt
      have y2 : decide ((k : Int) < (n : Int)) = false := by simp; omega
      obtain rfl : k = n := by omega
      have HL := hide (show ∀ a ∈ l, a.n.size ≤ 300 from fun a ha => by
        obtain ⟨j, hj⟩ := List.mem_iff_getElem?.1 ha
        exact HALL.out j a (by rw [HN.out]; exact (List.getElem?_eq_some_iff.1 hj).1) hj)
      by_cases h60 : k ≤ 60
      · have z1 : decide (k ≤ 60) = true := by simpa using h60
        have z2 : decide ((k : Int) ≤ 60) = true := by simp; omega
        have HE := hide (show lightB l = true from lightB_iff.2 ⟨HL.out, by rw [← HN.out]; exact h60⟩)
        clear h60
        go_wp2
        go_ret
        exact ⟨by rw [HE.out]; rfl, rfl⟩
      · have z1 : decide (k ≤ 60) = false := by simpa using h60
        have z2 : decide ((k : Int) ≤ 60) = false := by simp; omega
        have HE := hide (show lightB l = false by
          cases hb : lightB l with
          | false => rfl
          | true => exact absurd (lightB_iff.1 hb).2 (by rw [← HN.out]; exact h60))
        clear h60
        go_wp2
        go_ret
        exact ⟨by rw [HE.out]; rfl, rfl⟩
end Go.Proofs.YtnbhejbpofjamaaGreatDoor

/- A set of buffers of the law's own, each buffer known whole: each method on it. No condition but those written. -/
import Derived.Test.YtnbhejbpofjamaaGreatDoorBmn
namespace Go.Proofs.YtnbhejbpofjamaaGreatDoor
open Go.RowKit

def upd (tx : Nat → Bz) (b : Nat) (v : Bz) : Nat → Bz := fun k => if k = b then v else tx k
theorem upd_hit (tx : Nat → Bz) (b : Nat) (v : Bz) : upd tx b v b = v := if_pos rfl
theorem upd_miss (tx : Nat → Bz) {b k : Nat} (v : Bz) (h : k ≠ b) : upd tx b v k = tx k := if_neg h
/-- A set at sb whose buffers' states are tx, behind k acts, beside R. -/
structure LZ (W w : World) (sb : Nat) (s : Bst) (tx : Nat → Bz) (k : Nat) (R : Heap) : Prop where
  at_ : ∃ D, SAt W w sb s (zsHeap D ++ R) ∧ (∀ y ∈ D, ZOk y.1 y.2) ∧ ∀ x ∈ s.all, ∃ z, (z, tx x.b) ∈ D ∧ z.bp = x.b
  ok : s.Ok
  bn : (s.all.map Nb.b).Nodup
  nn : (s.all.map Nb.name).Nodup
  nv : ∀ x ∈ s.all, chkE x.name = 0
  nz : ∀ x ∈ s.all, x.name.size ≤ 1000000
  nx : s.next ≤ k + 1
  tk : ∀ x ∈ s.all, (tx x.b).tick ≤ k
  cu : s.cur ∈ s.order
section
variable {W w w' : World} {sb : Nat} {s : Bst} {tx : Nat → Bz} {k : Nat} {R : Heap}
theorem LZ.len (h : LZ W w sb s tx k R) : s.order.length ≤ k + 1 := by
  have h1 := nodup_len (List.range s.next) s.order h.ok.onod fun k hk => List.mem_range.2 (h.ok.lt k hk)
  have := h.nx
  rw [List.length_range] at h1
  omega
theorem LZ.below (h : LZ W w sb s tx k R) (hb : Below w.heap.size w w') : LZ W w' sb s tx k R := by
  obtain ⟨D, h1, h2⟩ := h.at_
  exact ⟨⟨D, h1.below hb, h2⟩, h.ok, h.bn, h.nn, h.nv, h.nz, h.nx, h.tk, h.cu⟩
theorem LZ.bel (h : LZ W w sb s tx k R) : Below W.heap.size W w := by
  obtain ⟨D, h1, _⟩ := h.at_
  exact h1.bel
theorem LZ.more (h : LZ W w sb s tx k R) : LZ W w sb s tx (k + 1) R := ⟨h.at_, h.ok, h.bn, h.nn, h.nv, h.nz, Nat.le_succ_of_le h.nx, fun x hx => Nat.le_succ_of_le (h.tk x hx), h.cu⟩
theorem LZ.many (h : LZ W w sb s tx k R) : Calls Tryz.prog 20 #[.pointer (some ⟨sb, 0, none⟩)] w fun e w' => e = .returned (.int .i64 (s.all.length : Int)) ∧ w = w' := by
  obtain ⟨D, ⟨b, rfl, h1⟩, _⟩ := h.at_
  exact many_any h1
theorem LZ.current (h : LZ W w sb s tx k R) : Calls Tryz.prog 21 #[.pointer (some ⟨sb, 0, none⟩)] w fun e w' => e = .returned (.int .i64 (s.cur : Int)) ∧ w = w' := by
  obtain ⟨D, ⟨b, rfl, h1⟩, _⟩ := h.at_
  exact current_any h1
theorem LZ.other (h : LZ W w sb s tx k R) (hk : k ≤ 900) : Calls Tryz.prog 26 #[.pointer (some ⟨sb, 0, none⟩)] w fun e w' => e = .returned (.int .i64 (othS s : Int)) ∧ LZ W w' sb s tx k R := by
  have hl := h.len
  obtain ⟨D, ⟨b, rfl, h1⟩, _⟩ := h.at_
  refine (other_any h1 (by omega)).mono ?_
  rintro e w' ⟨rfl, hb⟩
  exact ⟨rfl, h.below hb⟩
theorem LZ.list (h : LZ W w sb s tx k R) (hk : k ≤ 900) : Calls Tryz.prog 12 #[.pointer (some ⟨sb, 0, none⟩)] w fun e w' => ∃ A c, e = .returned (.slice A s.order.length c) ∧ Rd w' (.slice A s.order.length c) 1 s.order.length (ints s.order) ∧ Below w.heap.size w w' := by
  have hl := h.len
  obtain ⟨D, ⟨b, rfl, h1⟩, _⟩ := h.at_
  exact list_any h1 (by omega)
theorem LZ.name (h : LZ W w sb s tx k R) (i : Int) : Calls Tryz.prog 13 #[.pointer (some ⟨sb, 0, none⟩), .int .i64 i] w fun e w' => e = .returned (nameR s i) ∧ w = w' := by
  obtain ⟨D, ⟨b, rfl, h1⟩, _⟩ := h.at_
  exact name_any h1 i
theorem LZ.get (h : LZ W w sb s tx k R) (i : Int) : Calls Tryz.prog 16 #[.pointer (some ⟨sb, 0, none⟩), .int .i64 i] w fun e w' => e = .returned (getR s i) ∧ w = w' := by
  obtain ⟨D, ⟨b, rfl, h1⟩, _⟩ := h.at_
  exact get_any h1 i
/-- What Find returns where names are distinct. -/
def findR (s : Bst) (n : ByteArray) : Value := match s.all.find? fun x => decide (x.name = n) with
  | some x => .tuple #[.int .i64 (x.id : Int), .bool true]
  | none => .tuple #[.int .i64 0, .bool false]
theorem find_uniq {l : List Nb} {n : ByteArray} (h : (l.map Nb.name).Nodup) {x : Nb} (hx : x ∈ l) (hn : x.name = n) : (l.find? fun x => decide (x.name = n)) = some x := by
  cases hf : l.find? fun x => decide (x.name = n) with
  | none =>
    have := List.find?_eq_none.1 hf x hx
    simp [hn] at this
  | some y =>
    have hy := List.mem_of_find?_eq_some hf
    have hyn : y.name = n := by simpa using List.find?_some hf
    obtain ⟨A, B, rfl⟩ := List.append_of_mem hx
    rw [List.map_append, List.map_cons, List.nodup_append] at h
    obtain ⟨_, h2, h3⟩ := h
    rw [List.nodup_cons] at h2
    rcases List.mem_append.1 hy with h4 | h4
    · exact absurd (hyn.trans hn.symm) (h3 _ (List.mem_map.2 ⟨y, h4, rfl⟩) _ (List.mem_cons_self ..))
    · rcases List.mem_cons.1 h4 with rfl | h4
      · rfl
      · exact absurd (List.mem_map.2 ⟨y, h4, hyn.trans hn.symm⟩) h2.1
theorem LZ.find (h : LZ W w sb s tx k R) (n : ByteArray) : Calls Tryz.prog 14 #[.pointer (some ⟨sb, 0, none⟩), .string n] w fun e w' => e = .returned (findR s n) ∧ Below w.heap.size w w' := by
  obtain ⟨D, ⟨b, rfl, h1⟩, _⟩ := h.at_
  refine (find_any h1 n).mono ?_
  rintro e w' ⟨hb, ⟨rfl, hn⟩ | ⟨x, hx, hn, rfl⟩⟩
  · refine ⟨?_, hb⟩
    unfold findR
    rw [List.find?_eq_none.2 fun x hx => by simpa using hn x hx]
  · refine ⟨?_, hb⟩
    unfold findR
    rw [find_uniq h.nn hx hn]
theorem LZ.unique (h : LZ W w sb s tx k R) (hk : k ≤ 400) (hT : Tabs W) (hP : Pow W) (n : ByteArray) (hs : n.size < 1000000) : Calls Tryz.prog 17 #[.pointer (some ⟨sb, 0, none⟩), .string n] w (UniRes s n w) := by
  have hl := h.len
  rw [h.ok.len] at hl
  obtain ⟨D, ⟨b, rfl, h1⟩, _⟩ := h.at_
  exact unique_any h1 (hT.below h.bel) (hP.below h.bel) (by omega) n hs
theorem LZ.create (h : LZ W w sb s tx k R) (hT : Tabs W) (hk : k ≤ 400) (n : ByteArray) (hs : n.size < 1000000) : Calls Tryz.prog 36 #[.pointer (some ⟨sb, 0, none⟩), .string n] w fun e w' =>
    e = .returned (.tuple #[.int .i64 (if creE s n = 0 then (s.next : Int) else 0), .int .i64 (creE s n)]) ∧ (creE s n ≠ 0 → LZ W w' sb s tx (k + 1) R) ∧ (creE s n = 0 → ∃ g bp, bp ∉ s.all.map Nb.b ∧ LZ W w' sb (addS s n g bp) (upd tx bp ⟨[], 0, s.p, s.q, s.r⟩) (k + 1) R) := by
  have hl := h.len
  have hx := h.nx
  obtain ⟨D, ⟨b, rfl, h1⟩, hD, hZ⟩ := h.at_
  refine (create_any h1 hT h.ok (by omega) (by omega) n (by omega)).mono ?_
  rintro e w' ⟨rfl, h3, h4⟩
  refine ⟨rfl, fun h0 => ⟨⟨D, h3 h0, hD, hZ⟩, h.ok, h.bn, h.nn, h.nv, h.nz, by omega, fun x hx => Nat.le_succ_of_le (h.tk x hx), h.cu⟩, fun h0 => ?_⟩
  obtain ⟨g, z, h5, h6⟩ := h4 h0
  have hfr : z.bp ∉ s.all.map Nb.b := by
    intro hm
    obtain ⟨x, hx, e⟩ := List.mem_map.1 hm
    obtain ⟨zx, hzx, ezx⟩ := hZ x hx
    obtain ⟨b5, _, h7⟩ := h5
    have hnod := h7.own.right.nod
    rw [Heap.blocks_append, List.nodup_append] at hnod
    refine hnod.2.2 z.bp (zHeap_bp _ _) x.b ?_ e.symm
    rw [Heap.blocks_append]
    rw [← ezx]
    exact List.mem_append_left _ (zsHeap_bp hzx)
  have hc : chkE n = 0 := by
    unfold creE at h0
    split at h0
    · rename_i h8; exact absurd h0 h8
    · rename_i h8; omega
  have hn : hasN s.all n = false := by
    unfold creE at h0
    rw [if_neg (by rw [hc]; simp)] at h0
    split at h0
    · cases h0
    · rename_i h8; simpa using h8
  have eall : (addS s n g z.bp).all = s.all ++ [⟨s.next, g, z.bp, n⟩] := rfl
  refine ⟨g, z.bp, hfr, ⟨(z, ⟨[], 0, s.p, s.q, s.r⟩) :: D, ?_, ?_, ?_⟩, h.ok.addS n g z.bp, ?_, ?_, ?_, ?_, ?_, ?_, ?_⟩
  · rw [zsHeap_cons, List.append_assoc]
    exact h5
  · intro y hy
    rcases List.mem_cons.1 hy with rfl | hy
    · exact h6
    · exact hD y hy
  · intro x hx
    rw [eall] at hx
    rcases List.mem_append.1 hx with hx | hx
    · obtain ⟨zx, h7, h8⟩ := hZ x hx
      refine ⟨zx, ?_, h8⟩
      rw [upd_miss _ _ (fun e => hfr (List.mem_map.2 ⟨x, hx, e⟩))]
      exact List.mem_cons_of_mem _ h7
    · obtain rfl : x = ⟨s.next, g, z.bp, n⟩ := by simpa using hx
      refine ⟨z, ?_, rfl⟩
      show (z, upd tx z.bp ⟨[], 0, s.p, s.q, s.r⟩ z.bp) ∈ _
      rw [upd_hit]
      exact List.mem_cons_self ..
  · rw [eall, List.map_append, List.nodup_append]
    refine ⟨h.bn, by simp, fun a ha b hb => ?_⟩
    simp at hb
    rintro rfl
    exact hfr (hb ▸ ha)
  · rw [eall, List.map_append, List.nodup_append]
    refine ⟨h.nn, by simp, fun a ha b hb => ?_⟩
    simp at hb
    rintro rfl
    obtain ⟨x, hx, e⟩ := List.mem_map.1 ha
    exact hasN_false.1 hn x hx (e.trans hb)
  · intro x hx
    rw [eall] at hx
    rcases List.mem_append.1 hx with hx | hx
    · exact h.nv x hx
    · obtain rfl : x = ⟨s.next, g, z.bp, n⟩ := by simpa using hx
      exact hc
  · intro x hx
    rw [eall] at hx
    rcases List.mem_append.1 hx with hx | hx
    · exact h.nz x hx
    · obtain rfl : x = ⟨s.next, g, z.bp, n⟩ := by simpa using hx
      show n.size ≤ _
      omega
  · show s.next + 1 ≤ k + 1 + 1
    omega
  · intro x hx
    rw [eall] at hx
    rcases List.mem_append.1 hx with hx | hx
    · rw [upd_miss _ _ (fun e => hfr (List.mem_map.2 ⟨x, hx, e⟩))]
      exact Nat.le_succ_of_le (h.tk x hx)
    · obtain rfl : x = ⟨s.next, g, z.bp, n⟩ := by simpa using hx
      show (upd tx z.bp ⟨[], 0, s.p, s.q, s.r⟩ z.bp).tick ≤ _
      rw [upd_hit]
      exact Nat.zero_le _
  · exact List.mem_append_left _ h.cu
theorem LZ.insert (h : LZ W w sb s tx k R) (hR : Rules W) (hk : k ≤ 400) {x : Nb} (hx : x ∈ s.all) (t : ByteArray) (ht : t.size ≤ 1000000) :
    Calls Tryz.prog 43 #[.pointer (some ⟨x.b, 0, none⟩), .string t] w fun e w' => e = .returned (.int .i64 (fitE (tx x.b).L t)) ∧ LZ W w' sb s (upd tx x.b (insB (tx x.b) t)) (k + 1) R := by
  obtain ⟨D, ⟨b, rfl, h1⟩, hD, hZ⟩ := h.at_
  obtain ⟨z, hz, hzb⟩ := hZ x hx
  obtain ⟨D1, D2, rfl⟩ := List.append_of_mem hz
  have ho : Own W w (zHeap z (tx x.b) ++ (s.heap b ++ (zsHeap (D1 ++ D2) ++ R))) := by
    have h2 := h1.own
    rw [zsHeap_app, zsHeap_cons, List.append_assoc, List.append_assoc] at h2
    rw [zsHeap_app, List.append_assoc]
    exact h2.perm (perm_in _ _ _ _)
  have hbuf : BufAt W w z (tx x.b) _ := (hD _ hz).at_ ho
  have htk := h.tk x hx
  have hins := binsert_any hbuf hR t ht (by omega)
  rw [hzb] at hins
  refine hins.mono ?_
  rintro e w' ⟨rfl, z', hz', h3⟩
  refine ⟨rfl, ⟨D1 ++ (z', insB (tx x.b) t) :: D2, ⟨b, rfl, h1.reR ?_⟩, ?_, ?_⟩, h.ok, h.bn, h.nn, h.nv, h.nz, Nat.le_succ_of_le h.nx, ?_, h.cu⟩
  · have h4 := h3.own_
    rw [zsHeap_app, List.append_assoc] at h4
    rw [zsHeap_app, zsHeap_cons, List.append_assoc, List.append_assoc]
    exact h4.perm (perm_in _ _ _ _).symm
  · intro y hy
    rcases List.mem_append.1 hy with hy | hy
    · exact hD y (List.mem_append_left _ hy)
    · rcases List.mem_cons.1 hy with rfl | hy
      · exact h3.zok
      · exact hD y (List.mem_append_right _ (List.mem_cons_of_mem _ hy))
  · intro y hy
    by_cases e : y.b = x.b
    · refine ⟨z', ?_, hz'.trans (hzb.trans e.symm)⟩
      rw [e, upd_hit]
      exact List.mem_append_right _ (List.mem_cons_self ..)
    · obtain ⟨zy, h5, h6⟩ := hZ y hy
      refine ⟨zy, ?_, h6⟩
      rw [upd_miss _ _ e]
      rcases List.mem_append.1 h5 with h5 | h5
      · exact List.mem_append_left _ h5
      · rcases List.mem_cons.1 h5 with h5 | h5
        · have : zy = z := congrArg Prod.fst h5
          exact absurd (h6.symm.trans ((congrArg Zb.bp this).trans hzb)) e
        · exact List.mem_append_right _ (List.mem_cons_of_mem _ h5)
  · intro y hy
    by_cases e : y.b = x.b
    · rw [e, upd_hit]
      have := insB_tick (tx x.b) t
      omega
    · rw [upd_miss _ _ e]
      exact Nat.le_succ_of_le (h.tk y hy)
/-- The set turns, its buffers stay. -/
theorem LZ.turn (h : LZ W w sb s tx k R) {D : List (Zb × Bz)} (hD : ∀ y ∈ D, ZOk y.1 y.2) (hZ : ∀ x ∈ s.all, ∃ z, (z, tx x.b) ∈ D ∧ z.bp = x.b) {s' : Bst} (h2 : SAt W w' sb s' (zsHeap D ++ R)) (ha : ∀ x ∈ s'.all, ∃ y ∈ s.all, y.b = x.b) (ok : s'.Ok) (bn : (s'.all.map Nb.b).Nodup) (nn : (s'.all.map Nb.name).Nodup) (nv : ∀ x ∈ s'.all, chkE x.name = 0) (nz : ∀ x ∈ s'.all, x.name.size ≤ 1000000) (nx : s'.next = s.next) (cu : s'.cur ∈ s'.order) : LZ W w' sb s' tx (k + 1) R := by
  refine ⟨⟨D, h2, hD, fun x hx => ?_⟩, ok, bn, nn, nv, nz, by rw [nx]; exact Nat.le_succ_of_le h.nx, fun x hx => ?_, cu⟩
  · obtain ⟨y, hy, e⟩ := ha x hx
    rw [← e]
    exact hZ y hy
  · obtain ⟨y, hy, e⟩ := ha x hx
    rw [← e]
    exact Nat.le_succ_of_le (h.tk y hy)
theorem LZ.kill (h : LZ W w sb s tx k R) (hk : k ≤ 900) (i : Int) : Calls Tryz.prog 35 #[.pointer (some ⟨sb, 0, none⟩), .int .i64 i] w fun e w' => e = .returned (.int .i64 (kilE s i)) ∧ LZ W w' sb (if kilE s i = 0 then kilS s i.toNat else s) tx (k + 1) R := by
  have hl := h.len
  obtain ⟨D, ⟨b, rfl, h1⟩, hD, hZ⟩ := h.at_
  refine (kill_any h1 h.ok i (by omega)).mono ?_
  rintro e w' ⟨rfl, s', h2, h3, h4⟩
  refine ⟨rfl, ?_⟩
  by_cases he : kilE s i = 0
  · rw [if_pos he]
    obtain rfl := h4 he
    have hsub : ∀ x ∈ (kilS s i.toNat).all, x ∈ s.all := fun x hx => (delB_sub s.all _).subset hx
    obtain ⟨j, rfl, hj, hlen⟩ : ∃ j : Nat, i = (j : Int) ∧ j ∈ s.order ∧ s.all.length ≠ 1 := by
      unfold kilE at he
      split at he
      · rename_i h8; exact absurd he h8
      · rename_i h8
        split at he
        · cases he
        · rename_i h9
          obtain ⟨j, e, hj, _⟩ := known_nat h.ok (by omega : knownE s.all i = 0)
          exact ⟨j, e, hj, h9⟩
    rw [Int.toNat_natCast] at hsub h2 ⊢
    refine h.turn hD hZ h2 (fun x hx => ⟨x, hsub x hx, rfl⟩) (h.ok.kilS _) (h.bn.sublist ((delB_sub s.all _).map _)) (h.nn.sublist ((delB_sub s.all _).map _)) (fun x hx => h.nv x (hsub x hx)) (fun x hx => h.nz x (hsub x hx)) rfl ?_
    show (if s.cur = j then (s.order.erase j).headD 0 else s.cur) ∈ s.order.erase j
    split
    · have hne : (s.order.erase j).length ≠ 0 := by
        rw [List.length_erase_of_mem hj, h.ok.len]
        have : 0 < s.all.length := by rw [← h.ok.len]; exact List.length_pos_of_mem hj
        omega
      cases e : s.order.erase j with
      | nil => rw [e] at hne; exact absurd rfl hne
      | cons a l => exact List.mem_cons_self ..
    · rename_i h9
      exact (List.mem_erase_of_ne h9).2 h.cu
  · rw [if_neg he]
    obtain rfl := h3 he
    exact h.turn hD hZ h2 (fun x hx => ⟨x, hx, rfl⟩) h.ok h.bn h.nn h.nv h.nz rfl h.cu
theorem LZ.switch (h : LZ W w sb s tx k R) (hk : k ≤ 900) (i : Int) : Calls Tryz.prog 39 #[.pointer (some ⟨sb, 0, none⟩), .int .i64 i] w fun e w' => e = .returned (.int .i64 (knownE s.all i)) ∧ LZ W w' sb (if knownE s.all i = 0 then swiS s i.toNat else s) tx (k + 1) R := by
  have hl := h.len
  obtain ⟨D, ⟨b, rfl, h1⟩, hD, hZ⟩ := h.at_
  refine (switch_any h1 h.ok i (by omega)).mono ?_
  rintro e w' ⟨rfl, s', h2, h3, h4⟩
  refine ⟨rfl, ?_⟩
  by_cases he : knownE s.all i = 0
  · rw [if_pos he]
    obtain rfl := h4 he
    obtain ⟨j, rfl, hj, _⟩ := known_nat h.ok he
    rw [Int.toNat_natCast] at h2 ⊢
    exact h.turn hD hZ h2 (fun x hx => ⟨x, hx, rfl⟩) (h.ok.swiS hj) h.bn h.nn h.nv h.nz rfl (List.mem_cons_self ..)
  · rw [if_neg he]
    obtain rfl := h3 he
    exact h.turn hD hZ h2 (fun x hx => ⟨x, hx, rfl⟩) h.ok h.bn h.nn h.nv h.nz rfl h.cu
theorem LZ.bury (h : LZ W w sb s tx k R) (hk : k ≤ 900) (i : Int) : Calls Tryz.prog 40 #[.pointer (some ⟨sb, 0, none⟩), .int .i64 i] w fun e w' => e = .returned (.int .i64 (knownE s.all i)) ∧ LZ W w' sb (if knownE s.all i = 0 then burS s i.toNat else s) tx (k + 1) R := by
  have hl := h.len
  obtain ⟨D, ⟨b, rfl, h1⟩, hD, hZ⟩ := h.at_
  refine (bury_any h1 h.ok i (by omega)).mono ?_
  rintro e w' ⟨rfl, s', h2, h3, h4⟩
  refine ⟨rfl, ?_⟩
  by_cases he : knownE s.all i = 0
  · rw [if_pos he]
    obtain rfl := h4 he
    obtain ⟨j, rfl, hj, _⟩ := known_nat h.ok he
    rw [Int.toNat_natCast] at h2 ⊢
    refine h.turn hD hZ h2 (fun x hx => ⟨x, hx, rfl⟩) (h.ok.burS hj) h.bn h.nn h.nv h.nz rfl ?_
    show s.cur ∈ s.order.erase j ++ [j]
    by_cases e : s.cur = j
    · rw [e]; exact List.mem_append_right _ (List.mem_cons_self ..)
    · exact List.mem_append_left _ ((List.mem_erase_of_ne e).2 h.cu)
  · rw [if_neg he]
    obtain rfl := h3 he
    exact h.turn hD hZ h2 (fun x hx => ⟨x, hx, rfl⟩) h.ok h.bn h.nn h.nv h.nz rfl h.cu
theorem Bst.Ok.withCur {s : Bst} (h : s.Ok) (n : Nat) : (s.withCur n).Ok := ⟨h.nod, h.mem, h.onod, h.lt⟩
theorem LZ.enter (h : LZ W w sb s tx k R) (i : Int) : Calls Tryz.prog 38 #[.pointer (some ⟨sb, 0, none⟩), .int .i64 i] w fun e w' => e = .returned (.int .i64 (knownE s.all i)) ∧ LZ W w' sb (if knownE s.all i = 0 then s.withCur i.toNat else s) tx (k + 1) R := by
  obtain ⟨D, ⟨b, rfl, h1⟩, hD, hZ⟩ := h.at_
  refine (enter_any h1 h.ok i).mono ?_
  rintro e w' ⟨rfl, s', h2, h3, h4⟩
  refine ⟨rfl, ?_⟩
  by_cases he : knownE s.all i = 0
  · rw [if_pos he]
    obtain rfl := h4 he
    obtain ⟨j, rfl, hj, _⟩ := known_nat h.ok he
    rw [Int.toNat_natCast] at h2 ⊢
    exact h.turn hD hZ h2 (fun x hx => ⟨x, hx, rfl⟩) (h.ok.withCur j) h.bn h.nn h.nv h.nz rfl hj
  · rw [if_neg he]
    obtain rfl := h3 he
    exact h.turn hD hZ h2 (fun x hx => ⟨x, hx, rfl⟩) h.ok h.bn h.nn h.nv h.nz rfl h.cu
theorem renS_ids (s : Bst) (k : Int) (n : ByteArray) : (renS s k n).all.map Nb.id = s.all.map Nb.id := by
  show (s.all.map _).map Nb.id = _
  rw [List.map_map]
  refine List.map_congr_left fun x _ => ?_
  simp only [Function.comp]
  split <;> rfl
theorem renS_bs (s : Bst) (k : Int) (n : ByteArray) : (renS s k n).all.map Nb.b = s.all.map Nb.b := by
  show (s.all.map _).map Nb.b = _
  rw [List.map_map]
  refine List.map_congr_left fun x _ => ?_
  simp only [Function.comp]
  split <;> rfl
theorem Bst.Ok.renS {s : Bst} (h : s.Ok) (k : Int) (n : ByteArray) : (renS s k n).Ok := h.ofOrder (renS_ids s k n) (fun _ => Iff.rfl) h.onod rfl
theorem mem_renS {s : Bst} {k : Int} {n : ByteArray} {x : Nb} (h : x ∈ (renS s k n).all) : ∃ y ∈ s.all, y.b = x.b ∧ y.id = x.id ∧ (((y.id : Int) = k ∧ x.name = n) ∨ ((y.id : Int) ≠ k ∧ x = y)) := by
  obtain ⟨y, hy, rfl⟩ := List.mem_map.1 (show x ∈ s.all.map _ from h)
  refine ⟨y, hy, ?_⟩
  by_cases e : (y.id : Int) = k
  · rw [if_pos e]; exact ⟨rfl, rfl, .inl ⟨e, rfl⟩⟩
  · rw [if_neg e]; exact ⟨rfl, rfl, .inr ⟨e, rfl⟩⟩
theorem nodup_ren (l : List Nb) (k : Int) (n : ByteArray) (hi : (l.map Nb.id).Nodup) (hn : (l.map Nb.name).Nodup) (hu : ∀ x ∈ l, x.name = n → (x.id : Int) = k) : ((l.map fun x => if (x.id : Int) = k then { x with name := n } else x).map Nb.name).Nodup := by
  induction l with
  | nil => simp
  | cons x l ih =>
    rw [List.map_cons, List.nodup_cons] at hi hn
    have ih' := ih hi.2 hn.2 fun y hy => hu y (List.mem_cons_of_mem _ hy)
    rw [List.map_cons, List.map_cons, List.nodup_cons]
    refine ⟨fun hm => ?_, ih'⟩
    rw [List.map_map] at hm
    obtain ⟨y, hy, e⟩ := List.mem_map.1 hm
    simp only [Function.comp] at e
    have hne : y.id ≠ x.id := fun e2 => hi.1 (List.mem_map.2 ⟨y, hy, e2⟩)
    have hnn : y.name ≠ x.name := fun e2 => hn.1 (List.mem_map.2 ⟨y, hy, e2⟩)
    by_cases h1 : (x.id : Int) = k
    · rw [if_pos h1, if_neg (by omega)] at e
      have := hu y (List.mem_cons_of_mem _ hy) e
      omega
    · rw [if_neg h1] at e
      by_cases h2 : (y.id : Int) = k
      · rw [if_pos h2] at e
        exact h1 (hu x (List.mem_cons_self ..) e.symm)
      · rw [if_neg h2] at e
        exact hnn e
theorem LZ.rename (h : LZ W w sb s tx k R) (hT : Tabs W) (i : Int) (n : ByteArray) (hs : n.size < 1000000) : Calls Tryz.prog 37 #[.pointer (some ⟨sb, 0, none⟩), .int .i64 i, .string n] w fun e w' => e = .returned (.int .i64 (renE s i n)) ∧ LZ W w' sb (if renE s i n = 0 then renS s i n else s) tx (k + 1) R := by
  obtain ⟨D, ⟨b, rfl, h1⟩, hD, hZ⟩ := h.at_
  refine (rename_any h1 (hT.below h.bel) h.ok h.nn i n (by omega)).mono ?_
  rintro e w' ⟨rfl, h2⟩
  refine ⟨rfl, ?_⟩
  by_cases he : renE s i n = 0
  · rw [if_pos he] at h2 ⊢
    have hcu : chkE n = 0 ∧ useN s.all n i = false := by
      unfold renE at he
      split at he
      · rename_i h8; exact absurd he h8
      · split at he
        · rename_i h8; exact absurd he h8
        · rename_i h8
          split at he
          · cases he
          · rename_i h9; exact ⟨by omega, by simpa using h9⟩
    have hu : ∀ x ∈ s.all, x.name = n → (x.id : Int) = i := by
      intro x hx e
      have h9 := List.any_eq_false.1 hcu.2 x hx
      simp at h9
      exact h9 e
    refine h.turn hD hZ h2 (fun x hx => ?_) (h.ok.renS i n) (by rw [renS_bs]; exact h.bn) (nodup_ren s.all i n h.ok.nod h.nn hu) (fun x hx => ?_) (fun x hx => ?_) rfl h.cu
    · obtain ⟨y, hy, e, _⟩ := mem_renS hx
      exact ⟨y, hy, e⟩
    · obtain ⟨y, hy, _, _, ⟨_, e⟩ | ⟨_, e⟩⟩ := mem_renS hx
      · rw [e]; exact hcu.1
      · rw [e]; exact h.nv y hy
    · obtain ⟨y, hy, _, _, ⟨_, e⟩ | ⟨_, e⟩⟩ := mem_renS hx
      · rw [e]; omega
      · rw [e]; exact h.nz y hy
  · rw [if_neg he] at h2 ⊢
    exact h.turn hD hZ h2 (fun x hx => ⟨x, hx, rfl⟩) h.ok h.bn h.nn h.nv h.nz rfl h.cu
theorem lz_new (h : Own W w R) (hT : Tabs W) : Calls Tryz.prog 10 #[.int .i64 1, .int .i64 2, .int .i64 3] w fun e w' => ∃ sb g bp, e = .returned (.pointer (some ⟨sb, 0, none⟩)) ∧ LZ W w' sb (start 1 2 3 g bp) (fun _ => ⟨[], 0, 1, 2, 3⟩) 0 R := by
  refine (set_new W w R h hT 1 2 3).mono ?_
  rintro e w' ⟨sb, rfl, g, z, h1, h2⟩
  have ok : (start 1 2 3 g z.bp).Ok := (empty_ok 1 2 3).addS _ g z.bp
  refine ⟨sb, g, z.bp, rfl, ⟨[(z, ⟨[], 0, 1, 2, 3⟩)], by rw [zsHeap_cons]; simpa [zsHeap] using h1, ?_, ?_⟩, ok, ?_, ?_, ?_, ?_, ?_, ?_, ?_⟩
  · intro y hy
    obtain rfl : y = (z, ⟨[], 0, 1, 2, 3⟩) := by simpa using hy
    exact h2
  · intro x hx
    obtain rfl : x = ⟨0, g, z.bp, ⟨#[42, 115, 99, 114, 97, 116, 99, 104, 42]⟩⟩ := by simpa [start, addS] using hx
    exact ⟨z, by simp, rfl⟩
  · show [z.bp].Nodup
    simp
  · show [(⟨#[42, 115, 99, 114, 97, 116, 99, 104, 42]⟩ : ByteArray)].Nodup
    simp
  · intro x hx
    obtain rfl : x = ⟨0, g, z.bp, ⟨#[42, 115, 99, 114, 97, 116, 99, 104, 42]⟩⟩ := by simpa [start, addS] using hx
    kernel_rfl
  · intro x hx
    obtain rfl : x = ⟨0, g, z.bp, ⟨#[42, 115, 99, 114, 97, 116, 99, 104, 42]⟩⟩ := by simpa [start, addS] using hx
    show (9 : Nat) ≤ _
    omega
  · exact Nat.le_refl _
  · intro x hx
    exact Nat.le_refl _
  · show 0 ∈ [0]
    simp
end
end Go.Proofs.YtnbhejbpofjamaaGreatDoor

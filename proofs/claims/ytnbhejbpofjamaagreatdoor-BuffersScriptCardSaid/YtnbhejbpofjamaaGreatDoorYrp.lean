/- The reference of chapter 26 beside the set: what the two have in common, method by method. No condition but those written. -/
import Derived.Test.YtnbhejbpofjamaaGreatDoorYrl
namespace Go.Proofs.YtnbhejbpofjamaaGreatDoor
open Go.RowKit

theorem inj_of {α β : Type} {f : α → β} {l : List α} (h : (l.map f).Nodup) {x y : α} (hx : x ∈ l) (hy : y ∈ l) (e : f x = f y) : x = y := by
  induction l with
  | nil => cases hx
  | cons a t ih =>
    rw [List.map_cons, List.nodup_cons] at h
    rcases List.mem_cons.1 hx with rfl | hx'
    · rcases List.mem_cons.1 hy with rfl | hy'
      · rfl
      · exact absurd (List.mem_map.2 ⟨y, hy', e.symm⟩) h.1
    · rcases List.mem_cons.1 hy with rfl | hy'
      · exact absurd (List.mem_map.2 ⟨x, hx', e⟩) h.1
      · exact ih h.2 hx' hy'
theorem erase_atn {l : List Nat} (h : l.Nodup) {k a : Nat} (hk : l[k]? = some a) : l.take k ++ l.drop (k + 1) = l.erase a := by
  induction l generalizing k with
  | nil => simp at hk
  | cons b t ih =>
    rw [List.nodup_cons] at h
    cases k with
    | zero =>
      obtain rfl : b = a := by simpa using hk
      simp
    | succ k =>
      have hk' : t[k]? = some a := by simpa using hk
      have hb : (b == a) = false := by
        simp only [beq_eq_false_iff_ne, ne_eq]
        rintro rfl
        exact h.1 (List.mem_of_getElem? hk')
      rw [List.take_succ_cons, List.drop_succ_cons, List.erase_cons, hb, List.cons_append, ih h.2 hk']
      rfl
theorem drp_ids {l : List Rn} {k : Nat} {x : Rn} (h : (l.map Rn.id).Nodup) (hx : l[k]? = some x) : (drp l k).map Rn.id = (l.map Rn.id).erase x.id := by
  unfold drp
  rw [List.map_append, List.map_take, List.map_drop]
  exact erase_atn h (by rw [List.getElem?_map, hx]; rfl)
theorem drp_sub (l : List Rn) (k : Nat) : (drp l k).Sublist l := by
  unfold drp
  rw [← List.eraseIdx_eq_take_drop_succ]
  exact List.eraseIdx_sublist _ _
theorem drp_perm {l : List Rn} {k : Nat} {x : Rn} (hx : l[k]? = some x) : (x :: drp l k).Perm l := by
  obtain ⟨hk, e⟩ := List.getElem?_eq_some_iff.1 hx
  have h1 : l.take k ++ x :: l.drop (k + 1) = l := by rw [← e, ← List.drop_eq_getElem_cons hk, List.take_append_drop]
  have h2 : (x :: drp l k).Perm (l.take k ++ x :: l.drop (k + 1)) := List.perm_middle.symm
  rwa [h1] at h2
theorem mov_perm {l : List Rn} {k : Nat} {x : Rn} (hx : l[k]? = some x) (f : Bool) : (mov l k x f).Perm l := by
  cases f
  · exact (List.perm_append_comm (l₁ := drp l k) (l₂ := [x])).trans (drp_perm hx)
  · exact drp_perm hx
theorem mov_ids {l : List Rn} {k : Nat} {x : Rn} (h : (l.map Rn.id).Nodup) (hx : l[k]? = some x) (f : Bool) : (mov l k x f).map Rn.id = if f then x.id :: (l.map Rn.id).erase x.id else (l.map Rn.id).erase x.id ++ [x.id] := by
  cases f
  · show (drp l k ++ [x]).map Rn.id = (l.map Rn.id).erase x.id ++ [x.id]
    rw [List.map_append, drp_ids h hx]; rfl
  · show x.id :: (drp l k).map Rn.id = x.id :: (l.map Rn.id).erase x.id
    rw [drp_ids h hx]
/-- The set's state and the reference's. -/
structure Mt (s : Bst) (tx : Nat → Bz) (r : Rst) (ty : Nat → Bz) (k : Nat) : Prop where
  ids : r.l.map Rn.id = s.order
  cu : r.cu = s.cur
  nx : r.nx = s.next
  ev : ∀ e ∈ r.l, ∃ x ∈ s.all, x.id = e.id ∧ x.name = e.name ∧ (tx x.b).L = (ty e.b).L
  bs : (r.l.map Rn.b).Nodup
  tk : ∀ e ∈ r.l, (ty e.b).tick ≤ k
section
variable {s : Bst} {tx ty : Nat → Bz} {r : Rst} {k : Nat}
theorem Mt.more (h : Mt s tx r ty k) : Mt s tx r ty (k + 1) := ⟨h.ids, h.cu, h.nx, h.ev, h.bs, fun e he => Nat.le_succ_of_le (h.tk e he)⟩
theorem Mt.inod (h : Mt s tx r ty k) (ok : s.Ok) : (r.l.map Rn.id).Nodup := by rw [h.ids]; exact ok.onod
theorem Mt.len (h : Mt s tx r ty k) (ok : s.Ok) : r.l.length = s.all.length := by
  have h1 := congrArg List.length h.ids
  rw [List.length_map] at h1
  rw [h1, ok.len]
theorem Mt.back (h : Mt s tx r ty k) (ok : s.Ok) {x : Nb} (hx : x ∈ s.all) : ∃ e ∈ r.l, e.id = x.id ∧ e.name = x.name ∧ (tx x.b).L = (ty e.b).L := by
  have h1 : x.id ∈ r.l.map Rn.id := by rw [h.ids]; exact (ok.mem _).2 (List.mem_map.2 ⟨x, hx, rfl⟩)
  obtain ⟨e, he, h2⟩ := List.mem_map.1 h1
  obtain ⟨y, hy, h3, h4, h5⟩ := h.ev e he
  obtain rfl : y = x := inj_of ok.nod hy hx (h3.trans h2)
  exact ⟨e, he, h2, h4.symm, h5⟩
theorem Mt.has (h : Mt s tx r ty k) (ok : s.Ok) (n : ByteArray) : hasR r.l n = hasN s.all n := by
  rw [Bool.eq_iff_iff, hasR_true, hasN_true]
  constructor
  · rintro ⟨e, he, h1⟩
    obtain ⟨y, hy, _, h4, _⟩ := h.ev e he
    exact ⟨y, hy, h4.trans h1⟩
  · rintro ⟨x, hx, h1⟩
    obtain ⟨e, he, _, h4, _⟩ := h.back ok hx
    exact ⟨e, he, h4.trans h1⟩
theorem Mt.cre (h : Mt s tx r ty k) (ok : s.Ok) (n : ByteArray) : creR r n = creE s n := by
  unfold creR creE
  rw [h.has ok n, h.len ok]
theorem Mt.none_ (h : Mt s tx r ty k) (ok : s.Ok) {i : Int} (hi : ∀ e ∈ r.l, (e.id : Int) ≠ i) : fndB s.all i = none ∧ knownE s.all i = 8 := by
  have h1 : fndB s.all i = none := by
    cases hf : fndB s.all i with
    | none => rfl
    | some x =>
      obtain ⟨hx, h2⟩ := fndB_mem hf
      obtain ⟨e, he, h3, _⟩ := h.back ok hx
      exact absurd (by rw [h3]; exact h2) (hi e he)
  refine ⟨h1, ?_⟩
  unfold knownE
  rw [h1]
  rfl
theorem Mt.some_ (h : Mt s tx r ty k) (ok : s.Ok) {i : Int} {e : Rn} (he : e ∈ r.l) (hi : (e.id : Int) = i) : knownE s.all i = 0 ∧ ∃ x, fndB s.all i = some x ∧ x ∈ s.all ∧ x.id = e.id ∧ x.name = e.name ∧ (tx x.b).L = (ty e.b).L := by
  subst hi
  obtain ⟨y, hy, h3, h4, h5⟩ := h.ev e he
  obtain ⟨x, hx, h6, h7⟩ := fndB_of (l := s.all) (k := e.id) (List.mem_map.2 ⟨y, hy, h3⟩)
  obtain rfl : x = y := inj_of ok.nod h6 hy (h7.trans h3.symm)
  refine ⟨?_, x, hx, h6, h3, h4, h5⟩
  unfold knownE
  rw [hx]
  rfl
theorem Mt.kill (h : Mt s tx r ty k) (ok : s.Ok) {j : Nat} {x : Rn} (hx : r.l[j]? = some x) : Mt (kilS s x.id) tx (kilR r j x) ty k := by
  have hm := drp_ids (h.inod ok) hx
  have hsub : ∀ e ∈ drp r.l j, e ∈ r.l := fun e he => (drp_sub _ _).subset he
  have hmem := List.mem_of_getElem? hx
  refine ⟨?_, ?_, h.nx, ?_, h.bs.sublist ((drp_sub _ _).map _), fun e he => h.tk e (hsub e he)⟩
  · show (drp r.l j).map Rn.id = s.order.erase x.id
    rw [hm, h.ids]
  · show (if r.cu = x.id then ((drp r.l j).map Rn.id).headD 0 else r.cu) = if s.cur = x.id then (s.order.erase x.id).headD 0 else s.cur
    rw [hm, h.ids, h.cu]
  · intro e he
    obtain ⟨y, hy, h3, h4, h5⟩ := h.ev e (hsub e he)
    refine ⟨y, ?_, h3, h4, h5⟩
    show y ∈ delB s.all (x.id : Int)
    have hne : e.id ≠ x.id := by
      have h6 : e.id ∈ (r.l.map Rn.id).erase x.id := by rw [← hm]; exact List.mem_map.2 ⟨e, he, rfl⟩
      exact ((h.inod ok).mem_erase_iff.1 h6).1
    have h7 : fndB (delB s.all (x.id : Int)) (y.id : Int) = some y := by
      rw [delB_fnd ok.nod, if_neg (by omega)]
      obtain ⟨z, hz, h8, h9⟩ := fndB_of (l := s.all) (k := y.id) (List.mem_map.2 ⟨y, hy, rfl⟩)
      rw [hz, inj_of ok.nod h8 hy h9]
    exact (fndB_mem h7).1
theorem Mt.enter (h : Mt s tx r ty k) (c : Nat) : Mt (s.withCur c) tx { r with cu := c } ty k := ⟨h.ids, rfl, h.nx, h.ev, h.bs, h.tk⟩
theorem Mt.move (h : Mt s tx r ty k) (ok : s.Ok) {j : Nat} {x : Rn} (hx : r.l[j]? = some x) (f : Bool) (c : Nat) {o : List Nat} (ho : o = if f then x.id :: s.order.erase x.id else s.order.erase x.id ++ [x.id]) : Mt { s with order := o, cur := c } tx ⟨mov r.l j x f, r.nx, c⟩ ty k := by
  have hp := mov_perm hx f
  refine ⟨?_, rfl, h.nx, fun e he => h.ev e (hp.mem_iff.1 he), (hp.map Rn.b).nodup_iff.2 h.bs, fun e he => h.tk e (hp.mem_iff.1 he)⟩
  show (mov r.l j x f).map Rn.id = o
  rw [mov_ids (h.inod ok) hx, h.ids, ho]
theorem Mt.rename (h : Mt s tx r ty k) (ok : s.Ok) {j : Nat} {x : Rn} (hx : r.l[j]? = some x) (n : ByteArray) : Mt (renS s (x.id : Int) n) tx { r with l := r.l.set j { x with name := n } } ty k := by
  obtain ⟨hj, ex⟩ := List.getElem?_eq_some_iff.1 hx
  have hids : (r.l.set j { x with name := n }).map Rn.id = r.l.map Rn.id := by
    rw [List.map_set]
    show (r.l.map Rn.id).set j x.id = _
    have h1 : (r.l.map Rn.id)[j]'(by rw [List.length_map]; exact hj) = x.id := by rw [List.getElem_map, ex]
    rw [← h1, List.set_getElem_self]
  have hbs : (r.l.set j { x with name := n }).map Rn.b = r.l.map Rn.b := by
    rw [List.map_set]
    show (r.l.map Rn.b).set j x.b = _
    have h1 : (r.l.map Rn.b)[j]'(by rw [List.length_map]; exact hj) = x.b := by rw [List.getElem_map, ex]
    rw [← h1, List.set_getElem_self]
  have hmem : ∀ e ∈ r.l.set j { x with name := n }, e = { x with name := n } ∨ (e ∈ r.l ∧ e.id ≠ x.id) := by
    intro e he
    obtain ⟨i, hi, e1⟩ := List.mem_iff_getElem.1 he
    by_cases hij : j = i
    · subst hij
      left
      rw [← e1, List.getElem_set_self]
    · right
      rw [List.getElem_set_ne hij] at e1
      have hi' : i < r.l.length := by rwa [List.length_set] at hi
      refine ⟨List.mem_of_getElem e1, fun h9 => hij ?_⟩
      have h10 : (r.l.map Rn.id)[j]? = (r.l.map Rn.id)[i]? := by
        rw [List.getElem?_map, List.getElem?_map, hx, List.getElem?_eq_getElem hi', e1]
        show some x.id = some e.id
        rw [h9]
      exact (List.getElem?_inj (by rw [List.length_map]; exact hj) (h.inod ok)).1 h10
  have hxm := List.mem_of_getElem? hx
  refine ⟨by show (r.l.set j _).map Rn.id = s.order; rw [hids, h.ids], h.cu, h.nx, ?_, by show ((r.l.set j _).map Rn.b).Nodup; rw [hbs]; exact h.bs, ?_⟩
  · intro e he
    rcases hmem e he with rfl | ⟨h1, h2⟩
    · obtain ⟨y, hy, h3, h4, h5⟩ := h.ev x hxm
      refine ⟨{ y with name := n }, List.mem_map.2 ⟨y, hy, ?_⟩, h3, rfl, h5⟩
      rw [if_pos (by rw [h3])]
    · obtain ⟨y, hy, h3, h4, h5⟩ := h.ev e h1
      refine ⟨y, List.mem_map.2 ⟨y, hy, ?_⟩, h3, h4, h5⟩
      rw [if_neg (by rw [h3]; omega)]
  · intro e he
    rcases hmem e he with rfl | ⟨h1, _⟩
    · exact h.tk x hxm
    · exact h.tk e h1
theorem Mt.add (h : Mt s tx r ty k) (n : ByteArray) (g bp zp : Nat) (hb : bp ∉ s.all.map Nb.b) (hz : zp ∉ r.l.map Rn.b) (b1 b2 : Bz) (h1 : b1.L = b2.L) (h2 : b2.tick ≤ k) : Mt (addS s n g bp) (upd tx bp b1) ⟨r.l ++ [⟨r.nx, n, zp⟩], r.nx + 1, r.cu⟩ (upd ty zp b2) k := by
  refine ⟨?_, h.cu, by show r.nx + 1 = s.next + 1; rw [h.nx], ?_, ?_, ?_⟩
  · show (r.l ++ [_]).map Rn.id = s.order ++ [s.next]
    rw [List.map_append, h.ids, ← h.nx]; rfl
  · intro e he
    rcases List.mem_append.1 he with he | he
    · obtain ⟨y, hy, h3, h4, h5⟩ := h.ev e he
      refine ⟨y, List.mem_append_left _ hy, h3, h4, ?_⟩
      rw [upd_miss _ _ (fun e9 => hb (List.mem_map.2 ⟨y, hy, e9⟩)), upd_miss _ _ (fun e9 => hz (List.mem_map.2 ⟨e, he, e9⟩)), h5]
    · obtain rfl := List.mem_singleton.1 he
      refine ⟨⟨s.next, g, bp, n⟩, List.mem_append_right _ (List.mem_singleton.2 rfl), h.nx.symm, rfl, ?_⟩
      show (upd tx bp b1 bp).L = (upd ty zp b2 zp).L
      rw [upd_hit, upd_hit, h1]
  · show ((r.l ++ [_]).map Rn.b).Nodup
    rw [List.map_append, List.nodup_append]
    refine ⟨h.bs, by simp, fun a ha b hb' => ?_⟩
    simp at hb'
    rintro rfl
    exact hz (hb' ▸ ha)
  · intro e he
    rcases List.mem_append.1 he with he | he
    · rw [upd_miss _ _ (fun e9 => hz (List.mem_map.2 ⟨e, he, e9⟩))]
      exact h.tk e he
    · obtain rfl := List.mem_singleton.1 he
      show (upd ty zp b2 zp).tick ≤ k
      rw [upd_hit]
      exact h2
theorem insB_L {a b : Bz} (h : a.L = b.L) (t : ByteArray) : (insB a t).L = (insB b t).L := by
  unfold insB
  rw [h]
  split
  · rfl
  · exact h
theorem Mt.insert (h : Mt s tx r ty k) (ok : s.Ok) (bn : (s.all.map Nb.b).Nodup) {x : Nb} {e : Rn} (hx : x ∈ s.all) (he : e ∈ r.l) (hi : x.id = e.id) (t : ByteArray) : Mt s (upd tx x.b (insB (tx x.b) t)) r (upd ty e.b (insB (ty e.b) t)) (k + 1) := by
  refine ⟨h.ids, h.cu, h.nx, ?_, h.bs, ?_⟩
  · intro d hd
    obtain ⟨y, hy, h3, h4, h5⟩ := h.ev d hd
    refine ⟨y, hy, h3, h4, ?_⟩
    by_cases hde : d.id = e.id
    · obtain rfl : d = e := inj_of (h.inod ok) hd he hde
      obtain rfl : y = x := inj_of ok.nod hy hx (h3.trans hi.symm)
      rw [upd_hit, upd_hit]
      exact insB_L h5 t
    · rw [upd_miss _ _ (fun e9 => hde ?_), upd_miss _ _ (fun e9 => hde ?_), h5]
      · rw [inj_of h.bs hd he e9]
      · rw [← h3, inj_of bn hy hx e9, hi]
  · intro d hd
    by_cases hde : d.b = e.b
    · rw [hde, upd_hit]
      have h1 := insB_tick (ty e.b) t
      have h2 := h.tk e he
      omega
    · rw [upd_miss _ _ hde]
      exact Nat.le_succ_of_le (h.tk d hd)
end
end Go.Proofs.YtnbhejbpofjamaaGreatDoor
namespace Go.Proofs.YtnbhejbpofjamaaGreatDoor
open Go.RowKit

/-- The reference at rb answers as the state s. -/
def TZ (W w : World) (rb : Nat) (s : Bst) (tx : Nat → Bz) (k : Nat) (X : Heap) : Prop := ∃ r ty, RZ W w rb r ty X ∧ Mt s tx r ty k
/-- What holds of a reference whose blocks are H. -/
def RH (rb : Nat) (s : Bst) (tx : Nat → Bz) (k : Nat) (H : Heap) : Prop := ∃ (r : Rst) (ty : Nat → Bz) (v : Value) (E : List (Yb × Bz)), H = rsHead rb v r ++ ysHeap E ∧ RowOk v r.l.length ∧ (∀ y ∈ E, YOk y.1 y.2) ∧ (∀ e ∈ r.l, ∃ z, (z, ty e.b) ∈ E ∧ z.bp = e.b) ∧ Mt s tx r ty k
structure Fit (s : Bst) (k : Nat) : Prop where
  ok : s.Ok
  bn : (s.all.map Nb.b).Nodup
  nn : (s.all.map Nb.name).Nodup
  nx : s.next ≤ k + 1
theorem LZ.fit {W w : World} {sb : Nat} {s : Bst} {tx : Nat → Bz} {k : Nat} {R : Heap} (h : LZ W w sb s tx k R) : Fit s k := ⟨h.ok, h.bn, h.nn, h.nx⟩
theorem Fit.len {s : Bst} {k : Nat} (h : Fit s k) : s.all.length ≤ k + 1 := by
  have h1 := nodup_len (List.range s.next) s.order h.ok.onod fun k hk => List.mem_range.2 (h.ok.lt k hk)
  have := h.nx
  rw [List.length_range, h.ok.len] at h1
  omega
section
variable {W w w' : World} {rb : Nat} {s : Bst} {tx : Nat → Bz} {k : Nat} {X H : Heap}
theorem TZ.below (h : TZ W w rb s tx k X) (hb : Below w.heap.size w w') : TZ W w' rb s tx k X := by
  obtain ⟨r, ty, h1, h2⟩ := h
  exact ⟨r, ty, h1.below hb, h2⟩
theorem TZ.split (h : TZ W w rb s tx k X) : ∃ H, RH rb s tx k H ∧ Own W w (H ++ X) := by
  obtain ⟨r, ty, ⟨v, E, h1, h2, h3⟩, h4⟩ := h
  exact ⟨_, ⟨r, ty, v, E, rfl, h1.ok, h2, h3, h4⟩, by rw [List.append_assoc]; exact h1.own⟩
theorem RH.tz (h : RH rb s tx k H) (ho : Own W w (H ++ X)) : TZ W w rb s tx k X := by
  obtain ⟨r, ty, v, E, rfl, h1, h2, h3, h4⟩ := h
  rw [List.append_assoc] at ho
  exact ⟨r, ty, ⟨v, E, ⟨ho, h1⟩, h2, h3⟩, h4⟩
theorem FindR_len {r : Rst} {ty : Nat → Bz} (m : Mt s tx r ty k) (f : Fit s k) (hk : k ≤ 900) : r.l.length ≤ 1000 := by
  rw [m.len f.ok]
  have := f.len
  omega
theorem TZ.create (h : TZ W w rb s tx k X) (f : Fit s k) (hk : k ≤ 400) (n : ByteArray) (hs : n.size ≤ 1000000) : Calls Tryz.prog 50 #[.pointer (some ⟨rb, 0, none⟩), .string n] w fun e w' =>
    e = .returned (.tuple #[.int .i64 (if creE s n = 0 then (s.next : Int) else 0), .int .i64 (creE s n)]) ∧ (creE s n ≠ 0 → TZ W w' rb s tx (k + 1) X) ∧ (creE s n = 0 → ∀ g bp, bp ∉ s.all.map Nb.b → TZ W w' rb (addS s n g bp) (upd tx bp ⟨[], 0, s.p, s.q, s.r⟩) (k + 1) X) := by
  obtain ⟨r, ty, ⟨v, E, h1, hE, hZ⟩, m⟩ := h
  have hl := FindR_len m f (by omega)
  refine (rcreate_any h1 hl (by rw [m.nx]; have := f.nx; omega) n hs).mono ?_
  rintro e w' ⟨rfl, h2, h3⟩
  rw [m.cre f.ok n] at h2 h3 ⊢
  refine ⟨by rw [m.nx], fun h0 => ⟨r, ty, ⟨v, E, h2 h0, hE, hZ⟩, m.more⟩, fun h0 g bp hb => ?_⟩
  obtain ⟨v', z, h5, h6⟩ := h3 h0
  have hfr : z.bp ∉ r.l.map Rn.b := by
    intro hm
    obtain ⟨x, hx, e⟩ := List.mem_map.1 hm
    obtain ⟨zx, hzx, ezx⟩ := hZ x hx
    have hnod := h5.own.right.nod
    rw [Heap.blocks_append, List.nodup_append] at hnod
    refine hnod.2.2 z.bp (yHeap_bp _ _) x.b ?_ e.symm
    rw [Heap.blocks_append]
    rw [← ezx]
    exact List.mem_append_left _ (ysHeap_bp hzx)
  refine ⟨_, _, ⟨v', (z, ⟨[], 0, 1, 2, 3⟩) :: E, ?_, ?_, ?_⟩, (m.more).add n g bp z.bp hb hfr _ ⟨[], 0, 1, 2, 3⟩ rfl (Nat.zero_le _)⟩
  · rw [ysHeap_cons, List.append_assoc]
    exact h5
  · intro y hy
    rcases List.mem_cons.1 hy with rfl | hy
    · exact h6
    · exact hE y hy
  · intro e he
    rcases List.mem_append.1 he with he | he
    · obtain ⟨q, h7, h8⟩ := hZ e he
      refine ⟨q, ?_, h8⟩
      rw [upd_miss _ _ (fun e9 => hfr (List.mem_map.2 ⟨e, he, e9⟩))]
      exact List.mem_cons_of_mem _ h7
    · obtain rfl := List.mem_singleton.1 he
      refine ⟨z, ?_, rfl⟩
      show (z, upd ty z.bp ⟨[], 0, 1, 2, 3⟩ z.bp) ∈ _
      rw [upd_hit]
      exact List.mem_cons_self ..
theorem TZ.kill (h : TZ W w rb s tx k X) (f : Fit s k) (hk : k ≤ 400) (i : Int) : Calls Tryz.prog 51 #[.pointer (some ⟨rb, 0, none⟩), .int .i64 i] w fun e w' => e = .returned (.int .i64 (kilE s i)) ∧ TZ W w' rb (if kilE s i = 0 then kilS s i.toNat else s) tx (k + 1) X := by
  obtain ⟨r, ty, ⟨v, E, h1, hE, hZ⟩, m⟩ := h
  refine (rkill_any h1 i (FindR_len m f (by omega))).mono ?_
  rintro e w' (⟨rfl, hno, h2⟩ | ⟨j, x, hx, hi, ⟨hl, rfl, h2⟩ | ⟨hl, rfl, v', h2⟩⟩)
  · have he : kilE s i = 8 := by unfold kilE; rw [(m.none_ f.ok hno).2, if_pos (by decide)]
    rw [he, if_neg (by decide)]
    exact ⟨rfl, r, ty, ⟨v, E, h2, hE, hZ⟩, m.more⟩
  · have he : kilE s i = 9 := by unfold kilE; rw [(m.some_ f.ok (List.mem_of_getElem? hx) hi).1, if_neg (by decide), if_pos (by rw [← m.len f.ok]; exact hl)]
    rw [he, if_neg (by decide)]
    exact ⟨rfl, r, ty, ⟨v, E, h2, hE, hZ⟩, m.more⟩
  · have he : kilE s i = 0 := by unfold kilE; rw [(m.some_ f.ok (List.mem_of_getElem? hx) hi).1, if_neg (by decide), if_neg (by rw [← m.len f.ok]; exact hl)]
    rw [he, if_pos rfl]
    subst hi
    rw [Int.toNat_natCast]
    exact ⟨rfl, _, ty, ⟨v', E, h2, hE, fun e he => hZ e ((drp_sub _ _).subset he)⟩, (m.kill f.ok hx).more⟩
theorem TZ.rename (h : TZ W w rb s tx k X) (f : Fit s k) (hk : k ≤ 400) (i : Int) (n : ByteArray) (hs : n.size ≤ 1000000) : Calls Tryz.prog 52 #[.pointer (some ⟨rb, 0, none⟩), .int .i64 i, .string n] w fun e w' => e = .returned (.int .i64 (renE s i n)) ∧ TZ W w' rb (if renE s i n = 0 then renS s i n else s) tx (k + 1) X := by
  obtain ⟨r, ty, ⟨v, E, h1, hE, hZ⟩, m⟩ := h
  refine (rrename_any h1 i (FindR_len m f (by omega)) n hs).mono ?_
  rintro e w' (⟨rfl, hno, h2⟩ | ⟨j, x, hx, hi, h3⟩)
  · have he : renE s i n = 8 := by unfold renE; rw [(m.none_ f.ok hno).2, if_pos (by decide)]
    rw [he, if_neg (by decide)]
    exact ⟨rfl, r, ty, ⟨v, E, h2, hE, hZ⟩, m.more⟩
  · have hxm := List.mem_of_getElem? hx
    have hkn := (m.some_ f.ok hxm hi).1
    rcases h3 with ⟨hc, rfl, h2⟩ | ⟨hc, ⟨y, hy, hyn, hyi⟩, rfl, h2⟩ | ⟨hc, hu, rfl, h2⟩
    · have he : renE s i n = chkE n := by unfold renE; rw [hkn, if_neg (by decide), if_pos hc]
      rw [he, if_neg hc]
      exact ⟨rfl, r, ty, ⟨v, E, h2, hE, hZ⟩, m.more⟩
    · have hus : useN s.all n i = true := by
        obtain ⟨q, hq, h4, h5, _⟩ := m.ev y hy
        unfold useN
        rw [List.any_eq_true]
        exact ⟨q, hq, decide_eq_true ⟨h5.trans hyn, by rw [h4]; exact hyi⟩⟩
      have he : renE s i n = 17 := by unfold renE; rw [hkn, if_neg (by decide), hc, if_neg (by decide), if_pos hus]
      rw [he, if_neg (by decide)]
      exact ⟨rfl, r, ty, ⟨v, E, h2, hE, hZ⟩, m.more⟩
    · have hus : useN s.all n i = false := by
        unfold useN
        rw [List.any_eq_false]
        intro q hq h9
        have h10 := of_decide_eq_true h9
        obtain ⟨d, hd, h4, h5, _⟩ := m.back f.ok hq
        rcases hu with hu | ⟨y, hy, hyn, hyi⟩
        · exact hu d hd (h5.trans h10.1)
        · obtain ⟨p, hp, h6, h7, _⟩ := m.ev y hy
          obtain rfl : p = q := inj_of f.nn hp hq ((h7.trans hyn).trans h10.1.symm)
          exact h10.2 (by rw [h6]; exact hyi)
      have he : renE s i n = 0 := by unfold renE; rw [hkn, if_neg (by decide), hc, if_neg (by decide), if_neg (by rw [hus]; decide)]
      rw [he, if_pos rfl]
      subst hi
      refine ⟨rfl, _, ty, ⟨v, E, h2, hE, fun e he => ?_⟩, (m.rename f.ok hx n).more⟩
      rcases List.mem_or_eq_of_mem_set he with h9 | rfl
      · exact hZ e h9
      · exact hZ x hxm
theorem TZ.enter (h : TZ W w rb s tx k X) (f : Fit s k) (hk : k ≤ 400) (i : Int) : Calls Tryz.prog 53 #[.pointer (some ⟨rb, 0, none⟩), .int .i64 i] w fun e w' => e = .returned (.int .i64 (knownE s.all i)) ∧ TZ W w' rb (if knownE s.all i = 0 then s.withCur i.toNat else s) tx (k + 1) X := by
  obtain ⟨r, ty, ⟨v, E, h1, hE, hZ⟩, m⟩ := h
  refine (renter_any h1 i (FindR_len m f (by omega))).mono ?_
  rintro e w' (⟨rfl, hno, h2⟩ | ⟨x, hx, hi, rfl, h2⟩)
  · rw [(m.none_ f.ok hno).2, if_neg (by decide)]
    exact ⟨rfl, r, ty, ⟨v, E, h2, hE, hZ⟩, m.more⟩
  · rw [(m.some_ f.ok hx hi).1, if_pos rfl]
    subst hi
    rw [Int.toNat_natCast]
    exact ⟨rfl, _, ty, ⟨v, E, h2, hE, hZ⟩, (m.enter _).more⟩
theorem TZ.switch (h : TZ W w rb s tx k X) (f : Fit s k) (hk : k ≤ 400) (i : Int) : Calls Tryz.prog 54 #[.pointer (some ⟨rb, 0, none⟩), .int .i64 i] w fun e w' => e = .returned (.int .i64 (knownE s.all i)) ∧ TZ W w' rb (if knownE s.all i = 0 then swiS s i.toNat else s) tx (k + 1) X := by
  obtain ⟨r, ty, ⟨v, E, h1, hE, hZ⟩, m⟩ := h
  refine (rswitch_any h1 i (FindR_len m f (by omega))).mono ?_
  rintro e w' (⟨rfl, hno, h2⟩ | ⟨j, x, hx, hi, rfl, v', h2⟩)
  · rw [(m.none_ f.ok hno).2, if_neg (by decide)]
    exact ⟨rfl, r, ty, ⟨v, E, h2, hE, hZ⟩, m.more⟩
  · rw [(m.some_ f.ok (List.mem_of_getElem? hx) hi).1, if_pos rfl]
    subst hi
    rw [Int.toNat_natCast]
    have hm := m.move f.ok hx true x.id rfl
    exact ⟨rfl, _, ty, ⟨v', E, h2, hE, fun e he => hZ e ((mov_perm hx true).mem_iff.1 (show e ∈ mov r.l j x true from he))⟩, hm.more⟩
theorem TZ.bury (h : TZ W w rb s tx k X) (f : Fit s k) (hk : k ≤ 400) (i : Int) : Calls Tryz.prog 55 #[.pointer (some ⟨rb, 0, none⟩), .int .i64 i] w fun e w' => e = .returned (.int .i64 (knownE s.all i)) ∧ TZ W w' rb (if knownE s.all i = 0 then burS s i.toNat else s) tx (k + 1) X := by
  obtain ⟨r, ty, ⟨v, E, h1, hE, hZ⟩, m⟩ := h
  refine (rbury_any h1 i (FindR_len m f (by omega))).mono ?_
  rintro e w' (⟨rfl, hno, h2⟩ | ⟨j, x, hx, hi, rfl, v', h2⟩)
  · rw [(m.none_ f.ok hno).2, if_neg (by decide)]
    exact ⟨rfl, r, ty, ⟨v, E, h2, hE, hZ⟩, m.more⟩
  · rw [(m.some_ f.ok (List.mem_of_getElem? hx) hi).1, if_pos rfl]
    subst hi
    rw [Int.toNat_natCast]
    have hm := m.move f.ok hx false r.cu rfl
    have hm : Mt (burS s x.id) tx ⟨mov r.l j x false, r.nx, r.cu⟩ ty k := by
      have h9 := hm
      rw [m.cu] at h9
      rw [m.cu]
      exact h9
    exact ⟨rfl, _, ty, ⟨v', E, h2, hE, fun e he => hZ e ((mov_perm hx false).mem_iff.1 (show e ∈ mov r.l j x false from he))⟩, hm.more⟩
/-- Get, and what Insert does to what it gives. -/
theorem TZ.get (h : TZ W w rb s tx k X) (f : Fit s k) (hk : k ≤ 400) (i : Int) : Calls Tryz.prog 31 #[.pointer (some ⟨rb, 0, none⟩), .int .i64 i] w fun e w' => w = w' ∧ ((e = .returned (.pointer none) ∧ fndB s.all i = none) ∨ ∃ b x, e = .returned (.pointer (some ⟨b, 0, none⟩)) ∧ fndB s.all i = some x ∧ ∀ t : ByteArray, t.size ≤ 300 →
    Calls Tryz.prog 56 #[.pointer (some ⟨b, 0, none⟩), .string t, .bool false] w fun e w' => e = .returned (.int .i64 (fitE (tx x.b).L t)) ∧ TZ W w' rb s (upd tx x.b (insB (tx x.b) t)) (k + 1) X) := by
  obtain ⟨r, ty, hz, m⟩ := h
  obtain ⟨v, E, h1, hE, hZ⟩ := hz.at_
  refine (rget_any26 h1 i (FindR_len m f (by omega))).mono ?_
  rintro e w' ⟨rfl, ⟨rfl, hno⟩ | ⟨x, hx, hi, rfl⟩⟩
  · exact ⟨rfl, .inl ⟨rfl, (m.none_ f.ok hno).1⟩⟩
  · obtain ⟨_, y, hy, hym, hyi, _, hL⟩ := m.some_ f.ok hx hi
    refine ⟨rfl, .inr ⟨x.b, y, rfl, hy, fun t ht => ?_⟩⟩
    refine (hz.insert m.bs hx t ht (by have := m.tk x hx; omega)).mono ?_
    rintro e w' ⟨rfl, h3⟩
    rw [← hL]
    exact ⟨rfl, r, _, h3, m.insert f.ok f.bn hym hx hyi t⟩
theorem Ab.pick2 (a : Ab) {j : Int} (h : a.p = j) (w : World) : Calls Tryz.prog 18 #[.int .i64 a.k, .int .i64 9] w fun e w' => e = .returned (.int .i64 j) ∧ w = w' := a.pick h w
def Does (W : World) (rb : Nat) (s : Bst) (tx : Nat → Bz) (k : Nat) (X : Heap) (a : Ab) (s' : Bst) (tx' : Nat → Bz) (e : Ending) (w' : World) : Prop :=
  e = .returned (.tuple #[.int .i64 (doI s a), .int .i64 (doE s tx a)]) ∧ TZ W w' rb s' tx' (k + 1) X
variable {s' : Bst} {tx' : Nat → Bz}
set_option maxRecDepth 100000 in
set_option maxHeartbeats 4000000 in
theorem does_0 (h : TZ W w rb s tx k X) (f : Fit s k) (hk : k ≤ 400) (a : Ab) (hn : a.n.size ≤ 300) (hp : a.p = 0) (hd : DoR s tx a s' tx') : Calls Tryz.prog 23 #[.pointer (some ⟨rb, 0, none⟩), a.val] w (Does W rb s tx k X a s' tx') := by
  have H := hide (h.below (below_box w (.cells #[.int .i64 a.k, .int .i64 a.id, .string a.n] 31)))
  have HPK := hide (fun w => a.pick hp w)
  have HF := hide f
  have HN := hide hn
  have HK := hide hk
  have HV := hide (show doI s a = (if creE s a.n = 0 then (s.next : Int) else 0) ∧ doE s tx a = creE s a.n from by
    refine ⟨?_, ?_⟩
    · unfold doI; rw [hp]; rfl
    · unfold doE; rw [hp]; rfl)
  have HD := hide (show (creE s a.n ≠ 0 → s' = s ∧ tx' = tx) ∧ (creE s a.n = 0 → ∃ g bp, bp ∉ s.all.map Nb.b ∧ s' = addS s a.n g bp ∧ tx' = upd tx bp ⟨[], 0, s.p, s.q, s.r⟩) from by
    unfold DoR at hd; rw [hp] at hd; exact hd)
  obtain ⟨ak, ai, an⟩ := a
  simp only [] at HPK HN HV HD
  clear h f hk hn hp hd
  go_enter Tryz.func23, Tryz.ntmps23
  go_wp2_with fail
  refine Calls.mono (HPK.out _) ?_
  rintro e w1 ⟨rfl, rfl⟩
  go_wp2_with fail
  refine Calls.mono (H.out.create HF.out HK.out an (by have := HN.out; omega)) ?_
  rintro e w2 ⟨rfl, h2, h3⟩
  have H2 := hide h2
  have H3 := hide h3
  clear h2 h3
  obtain ⟨E, hE⟩ : ∃ E, E = creE s an := ⟨_, rfl⟩
  obtain ⟨I, hI⟩ : ∃ I : Int, I = (if creE s an = 0 then (s.next : Int) else 0) := ⟨_, rfl⟩
  rw [← hI, ← hE] at HV
  rw [← hI, ← hE]
  have HE := hide hE
  clear hE hI
  go_wp2_with fail
  go_ret2
  refine ⟨by rw [HV.out.1, HV.out.2]; rfl, ?_⟩
  by_cases h0 : creE s an = 0
  · obtain ⟨g, bp, h4, rfl, rfl⟩ := HD.out.2 h0
    exact H3.out h0 g bp h4
  · obtain ⟨rfl, rfl⟩ := HD.out.1 h0
    exact H2.out h0
set_option maxRecDepth 100000 in
set_option maxHeartbeats 4000000 in
theorem does_1 (h : TZ W w rb s tx k X) (f : Fit s k) (hk : k ≤ 400) (a : Ab) (hn : a.n.size ≤ 300) (hp : a.p = 1) (hd : DoR s tx a s' tx') : Calls Tryz.prog 23 #[.pointer (some ⟨rb, 0, none⟩), a.val] w (Does W rb s tx k X a s' tx') := by
  have H := hide (h.below (below_box w (.cells #[.int .i64 a.k, .int .i64 a.id, .string a.n] 31)))
  have HPK := hide (fun w => a.pick hp w)
  have HF := hide f
  have HN := hide hn
  have HK := hide hk
  have HV := hide (show doI s a = (if creE s a.n = 0 then (s.next : Int) else 0) ∧ doE s tx a = creE s a.n from by
    refine ⟨?_, ?_⟩
    · unfold doI; rw [hp]; rfl
    · unfold doE; rw [hp]; rfl)
  have HD := hide (show (creE s a.n ≠ 0 → s' = s ∧ tx' = tx) ∧ (creE s a.n = 0 → ∃ g bp, bp ∉ s.all.map Nb.b ∧ s' = addS s a.n g bp ∧ tx' = upd tx bp ⟨[], 0, s.p, s.q, s.r⟩) from by
    unfold DoR at hd; rw [hp] at hd; exact hd)
  obtain ⟨ak, ai, an⟩ := a
  simp only [] at HPK HN HV HD
  clear h f hk hn hp hd
  go_enter Tryz.func23, Tryz.ntmps23
  go_wp2_with fail
  refine Calls.mono (HPK.out _) ?_
  rintro e w1 ⟨rfl, rfl⟩
  go_wp2_with fail
  refine Calls.mono (H.out.create HF.out HK.out an (by have := HN.out; omega)) ?_
  rintro e w2 ⟨rfl, h2, h3⟩
  have H2 := hide h2
  have H3 := hide h3
  clear h2 h3
  obtain ⟨E, hE⟩ : ∃ E, E = creE s an := ⟨_, rfl⟩
  obtain ⟨I, hI⟩ : ∃ I : Int, I = (if creE s an = 0 then (s.next : Int) else 0) := ⟨_, rfl⟩
  rw [← hI, ← hE] at HV
  rw [← hI, ← hE]
  have HE := hide hE
  clear hE hI
  go_wp2_with fail
  go_ret2
  refine ⟨by rw [HV.out.1, HV.out.2]; rfl, ?_⟩
  by_cases h0 : creE s an = 0
  · obtain ⟨g, bp, h4, rfl, rfl⟩ := HD.out.2 h0
    exact H3.out h0 g bp h4
  · obtain ⟨rfl, rfl⟩ := HD.out.1 h0
    exact H2.out h0
set_option maxRecDepth 100000 in
set_option maxHeartbeats 4000000 in
theorem does_2 (h : TZ W w rb s tx k X) (f : Fit s k) (hk : k ≤ 400) (a : Ab) (hn : a.n.size ≤ 300) (hp : a.p = 2) (hd : DoR s tx a s' tx') : Calls Tryz.prog 23 #[.pointer (some ⟨rb, 0, none⟩), a.val] w (Does W rb s tx k X a s' tx') := by
  have H := hide (h.below (below_box w (.cells #[.int .i64 a.k, .int .i64 a.id, .string a.n] 31)))
  have HPK := hide (fun w => a.pick hp w)
  have HF := hide f
  have HN := hide hn
  have HK := hide hk
  have HV := hide (show doI s a = 0 ∧ doE s tx a = kilE s a.id from by
    refine ⟨?_, ?_⟩
    · unfold doI; rw [hp]; rfl
    · unfold doE; rw [hp]; rfl)
  have HS := hide (show s' = (if kilE s a.id = 0 then kilS s a.id.toNat else s) ∧ tx' = tx from by
    unfold DoR at hd; rw [hp] at hd; exact hd)
  obtain ⟨ak, ai, an⟩ := a
  simp only [] at HPK HN HV HS
  clear h f hk hn hp hd
  go_enter Tryz.func23, Tryz.ntmps23
  go_wp2_with fail
  refine Calls.mono (HPK.out _) ?_
  rintro e w1 ⟨rfl, rfl⟩
  go_wp2_with fail
  refine Calls.mono (H.out.kill HF.out HK.out ai) ?_
  rintro e w2 ⟨rfl, h2⟩
  have H2 := hide h2
  clear h2
  obtain ⟨E, hE⟩ : ∃ E, E = kilE s ai := ⟨_, rfl⟩
  rw [← hE] at HV
  rw [← hE]
  have HE := hide hE
  clear hE
  go_wp2_with fail
  go_ret2
  exact ⟨by rw [HV.out.1, HV.out.2]; rfl, by rw [HS.out.1, HS.out.2]; exact H2.out⟩
set_option maxRecDepth 100000 in
set_option maxHeartbeats 4000000 in
theorem does_3 (h : TZ W w rb s tx k X) (f : Fit s k) (hk : k ≤ 400) (a : Ab) (hn : a.n.size ≤ 300) (hp : a.p = 3) (hd : DoR s tx a s' tx') : Calls Tryz.prog 23 #[.pointer (some ⟨rb, 0, none⟩), a.val] w (Does W rb s tx k X a s' tx') := by
  have H := hide (h.below (below_box w (.cells #[.int .i64 a.k, .int .i64 a.id, .string a.n] 31)))
  have HPK := hide (fun w => a.pick hp w)
  have HF := hide f
  have HN := hide hn
  have HK := hide hk
  have HV := hide (show doI s a = 0 ∧ doE s tx a = renE s a.id a.n from by
    refine ⟨?_, ?_⟩
    · unfold doI; rw [hp]; rfl
    · unfold doE; rw [hp]; rfl)
  have HS := hide (show s' = (if renE s a.id a.n = 0 then renS s a.id a.n else s) ∧ tx' = tx from by
    unfold DoR at hd; rw [hp] at hd; exact hd)
  obtain ⟨ak, ai, an⟩ := a
  simp only [] at HPK HN HV HS
  clear h f hk hn hp hd
  go_enter Tryz.func23, Tryz.ntmps23
  go_wp2_with fail
  refine Calls.mono (HPK.out _) ?_
  rintro e w1 ⟨rfl, rfl⟩
  go_wp2_with fail
  refine Calls.mono (H.out.rename HF.out HK.out ai an (by have := HN.out; omega)) ?_
  rintro e w2 ⟨rfl, h2⟩
  have H2 := hide h2
  clear h2
  obtain ⟨E, hE⟩ : ∃ E, E = renE s ai an := ⟨_, rfl⟩
  rw [← hE] at HV
  rw [← hE]
  have HE := hide hE
  clear hE
  go_wp2_with fail
  go_ret2
  exact ⟨by rw [HV.out.1, HV.out.2]; rfl, by rw [HS.out.1, HS.out.2]; exact H2.out⟩
set_option maxRecDepth 100000 in
set_option maxHeartbeats 4000000 in
theorem does_4 (h : TZ W w rb s tx k X) (f : Fit s k) (hk : k ≤ 400) (a : Ab) (hn : a.n.size ≤ 300) (hp : a.p = 4) (hd : DoR s tx a s' tx') : Calls Tryz.prog 23 #[.pointer (some ⟨rb, 0, none⟩), a.val] w (Does W rb s tx k X a s' tx') := by
  have H := hide (h.below (below_box w (.cells #[.int .i64 a.k, .int .i64 a.id, .string a.n] 31)))
  have HPK := hide (fun w => a.pick hp w)
  have HF := hide f
  have HN := hide hn
  have HK := hide hk
  have HV := hide (show doI s a = 0 ∧ doE s tx a = knownE s.all a.id from by
    refine ⟨?_, ?_⟩
    · unfold doI; rw [hp]; rfl
    · unfold doE; rw [hp]; rfl)
  have HS := hide (show s' = (if knownE s.all a.id = 0 then s.withCur a.id.toNat else s) ∧ tx' = tx from by
    unfold DoR at hd; rw [hp] at hd; exact hd)
  obtain ⟨ak, ai, an⟩ := a
  simp only [] at HPK HN HV HS
  clear h f hk hn hp hd
  go_enter Tryz.func23, Tryz.ntmps23
  go_wp2_with fail
  refine Calls.mono (HPK.out _) ?_
  rintro e w1 ⟨rfl, rfl⟩
  go_wp2_with fail
  refine Calls.mono (H.out.enter HF.out HK.out ai) ?_
  rintro e w2 ⟨rfl, h2⟩
  have H2 := hide h2
  clear h2
  obtain ⟨E, hE⟩ : ∃ E, E = knownE s.all ai := ⟨_, rfl⟩
  rw [← hE] at HV
  rw [← hE]
  have HE := hide hE
  clear hE
  go_wp2_with fail
  go_ret2
  exact ⟨by rw [HV.out.1, HV.out.2]; rfl, by rw [HS.out.1, HS.out.2]; exact H2.out⟩
set_option maxRecDepth 100000 in
set_option maxHeartbeats 4000000 in
theorem does_5 (h : TZ W w rb s tx k X) (f : Fit s k) (hk : k ≤ 400) (a : Ab) (hn : a.n.size ≤ 300) (hp : a.p = 5) (hd : DoR s tx a s' tx') : Calls Tryz.prog 23 #[.pointer (some ⟨rb, 0, none⟩), a.val] w (Does W rb s tx k X a s' tx') := by
  have H := hide (h.below (below_box w (.cells #[.int .i64 a.k, .int .i64 a.id, .string a.n] 31)))
  have HPK := hide (fun w => a.pick hp w)
  have HF := hide f
  have HN := hide hn
  have HK := hide hk
  have HV := hide (show doI s a = 0 ∧ doE s tx a = knownE s.all a.id from by
    refine ⟨?_, ?_⟩
    · unfold doI; rw [hp]; rfl
    · unfold doE; rw [hp]; rfl)
  have HS := hide (show s' = (if knownE s.all a.id = 0 then swiS s a.id.toNat else s) ∧ tx' = tx from by
    unfold DoR at hd; rw [hp] at hd; exact hd)
  obtain ⟨ak, ai, an⟩ := a
  simp only [] at HPK HN HV HS
  clear h f hk hn hp hd
  go_enter Tryz.func23, Tryz.ntmps23
  go_wp2_with fail
  refine Calls.mono (HPK.out _) ?_
  rintro e w1 ⟨rfl, rfl⟩
  go_wp2_with fail
  refine Calls.mono (H.out.switch HF.out HK.out ai) ?_
  rintro e w2 ⟨rfl, h2⟩
  have H2 := hide h2
  clear h2
  obtain ⟨E, hE⟩ : ∃ E, E = knownE s.all ai := ⟨_, rfl⟩
  rw [← hE] at HV
  rw [← hE]
  have HE := hide hE
  clear hE
  go_wp2_with fail
  go_ret2
  exact ⟨by rw [HV.out.1, HV.out.2]; rfl, by rw [HS.out.1, HS.out.2]; exact H2.out⟩
set_option maxRecDepth 100000 in
set_option maxHeartbeats 4000000 in
theorem does_6 (h : TZ W w rb s tx k X) (f : Fit s k) (hk : k ≤ 400) (a : Ab) (hn : a.n.size ≤ 300) (hp : a.p = 6) (hd : DoR s tx a s' tx') : Calls Tryz.prog 23 #[.pointer (some ⟨rb, 0, none⟩), a.val] w (Does W rb s tx k X a s' tx') := by
  have H := hide (h.below (below_box w (.cells #[.int .i64 a.k, .int .i64 a.id, .string a.n] 31)))
  have HPK := hide (fun w => a.pick hp w)
  have HF := hide f
  have HN := hide hn
  have HK := hide hk
  have HV := hide (show doI s a = 0 ∧ doE s tx a = knownE s.all a.id from by
    refine ⟨?_, ?_⟩
    · unfold doI; rw [hp]; rfl
    · unfold doE; rw [hp]; rfl)
  have HS := hide (show s' = (if knownE s.all a.id = 0 then swiS s a.id.toNat else s) ∧ tx' = tx from by
    unfold DoR at hd; rw [hp] at hd; exact hd)
  obtain ⟨ak, ai, an⟩ := a
  simp only [] at HPK HN HV HS
  clear h f hk hn hp hd
  go_enter Tryz.func23, Tryz.ntmps23
  go_wp2_with fail
  refine Calls.mono (HPK.out _) ?_
  rintro e w1 ⟨rfl, rfl⟩
  go_wp2_with fail
  refine Calls.mono (H.out.switch HF.out HK.out ai) ?_
  rintro e w2 ⟨rfl, h2⟩
  have H2 := hide h2
  clear h2
  obtain ⟨E, hE⟩ : ∃ E, E = knownE s.all ai := ⟨_, rfl⟩
  rw [← hE] at HV
  rw [← hE]
  have HE := hide hE
  clear hE
  go_wp2_with fail
  go_ret2
  exact ⟨by rw [HV.out.1, HV.out.2]; rfl, by rw [HS.out.1, HS.out.2]; exact H2.out⟩
set_option maxRecDepth 100000 in
set_option maxHeartbeats 4000000 in
theorem does_7 (h : TZ W w rb s tx k X) (f : Fit s k) (hk : k ≤ 400) (a : Ab) (hn : a.n.size ≤ 300) (hp : a.p = 7) (hd : DoR s tx a s' tx') : Calls Tryz.prog 23 #[.pointer (some ⟨rb, 0, none⟩), a.val] w (Does W rb s tx k X a s' tx') := by
  have H := hide (h.below (below_box w (.cells #[.int .i64 a.k, .int .i64 a.id, .string a.n] 31)))
  have HPK := hide (fun w => a.pick hp w)
  have HF := hide f
  have HN := hide hn
  have HK := hide hk
  have HV := hide (show doI s a = 0 ∧ doE s tx a = knownE s.all a.id from by
    refine ⟨?_, ?_⟩
    · unfold doI; rw [hp]; rfl
    · unfold doE; rw [hp]; rfl)
  have HS := hide (show s' = (if knownE s.all a.id = 0 then burS s a.id.toNat else s) ∧ tx' = tx from by
    unfold DoR at hd; rw [hp] at hd; exact hd)
  obtain ⟨ak, ai, an⟩ := a
  simp only [] at HPK HN HV HS
  clear h f hk hn hp hd
  go_enter Tryz.func23, Tryz.ntmps23
  go_wp2_with fail
  refine Calls.mono (HPK.out _) ?_
  rintro e w1 ⟨rfl, rfl⟩
  go_wp2_with fail
  refine Calls.mono (H.out.bury HF.out HK.out ai) ?_
  rintro e w2 ⟨rfl, h2⟩
  have H2 := hide h2
  clear h2
  obtain ⟨E, hE⟩ : ∃ E, E = knownE s.all ai := ⟨_, rfl⟩
  rw [← hE] at HV
  rw [← hE]
  have HE := hide hE
  clear hE
  go_wp2_with fail
  go_ret2
  exact ⟨by rw [HV.out.1, HV.out.2]; rfl, by rw [HS.out.1, HS.out.2]; exact H2.out⟩
set_option maxRecDepth 100000 in
set_option maxHeartbeats 4000000 in
theorem does_8 (h : TZ W w rb s tx k X) (f : Fit s k) (hk : k ≤ 400) (a : Ab) (hn : a.n.size ≤ 300) (hp : a.p = 8) (hd : DoR s tx a s' tx') : Calls Tryz.prog 23 #[.pointer (some ⟨rb, 0, none⟩), a.val] w (Does W rb s tx k X a s' tx') := by
  have H := hide (h.below (below_box w (.cells #[.int .i64 a.k, .int .i64 a.id, .string a.n] 31)))
  have HPK := hide (fun w => a.pick hp w)
  have HF := hide f
  have HN := hide hn
  have HK := hide hk
  have HV := hide (show doI s a = 0 ∧ doE s tx a = insE s tx a from by
    refine ⟨?_, ?_⟩
    · unfold doI; rw [hp]; rfl
    · unfold doE; rw [hp]; rfl)
  have HS := hide (show s' = s ∧ tx' = insT s tx a from by
    unfold DoR at hd; rw [hp] at hd; exact hd)
  obtain ⟨ak, ai, an⟩ := a
  simp only [] at HPK HN HV HS
  clear h f hk hn hp hd
  cases hf : fndB s.all ai with
  | none =>
    have HE := hide (show insE s tx ⟨ak, ai, an⟩ = 8 ∧ insT s tx ⟨ak, ai, an⟩ = tx from by
      refine ⟨?_, ?_⟩
      · unfold insE; simp only [hf]
      · unfold insT; simp only [hf])
    have HFN := hide hf
    clear hf
    go_enter Tryz.func23, Tryz.ntmps23
    go_wp2_with fail
    refine Calls.mono (HPK.out _) ?_
    rintro e w1 ⟨rfl, rfl⟩
    go_wp2_with fail
    refine Calls.mono (H.out.get HF.out HK.out ai) ?_
    rintro e w2 ⟨rfl, h2⟩
    rcases h2 with ⟨rfl, _⟩ | ⟨b, x, _, hx, _⟩
    · go_wp2_with fail
      go_ret2
      refine ⟨by rw [HV.out.1, HV.out.2, HE.out.1]; rfl, ?_⟩
      rw [HS.out.1, HS.out.2, HE.out.2]
      obtain ⟨r, ty, hz, m⟩ := H.out
      exact ⟨r, ty, hz.below (Below.refl _ _), m.more⟩
    · exact absurd (HFN.out.symm.trans hx) (by simp)
  | some y =>
    have HE := hide (show insE s tx ⟨ak, ai, an⟩ = fitE (tx y.b).L an ∧ insT s tx ⟨ak, ai, an⟩ = upd tx y.b (insB (tx y.b) an) from by
      refine ⟨?_, ?_⟩
      · unfold insE; simp only [hf]
      · unfold insT; simp only [hf])
    have HFN := hide hf
    clear hf
    go_enter Tryz.func23, Tryz.ntmps23
    go_wp2_with fail
    refine Calls.mono (HPK.out _) ?_
    rintro e w1 ⟨rfl, rfl⟩
    go_wp2_with fail
    refine Calls.mono (H.out.get HF.out HK.out ai) ?_
    rintro e w2 ⟨rfl, h2⟩
    rcases h2 with ⟨rfl, hx⟩ | ⟨b, x, rfl, hx, hins⟩
    · exact absurd (HFN.out.symm.trans hx) (by simp)
    · obtain rfl : y = x := Option.some.inj (HFN.out.symm.trans hx)
      have HI := hide (hins an HN.out)
      clear hins hx
      go_wp2_with fail
      refine Calls.mono HI.out ?_
      rintro e w3 ⟨rfl, h3⟩
      have H3 := hide h3
      clear h3
      go_wp2_with fail
      go_ret2
      refine ⟨by rw [HV.out.1, HV.out.2, HE.out.1]; rfl, ?_⟩
      rw [HS.out.1, HS.out.2, HE.out.2]
      exact H3.out
theorem does_any (h : TZ W w rb s tx k X) (f : Fit s k) (hk : k ≤ 400) (a : Ab) (hn : a.n.size ≤ 300) (hd : DoR s tx a s' tx') : Calls Tryz.prog 23 #[.pointer (some ⟨rb, 0, none⟩), a.val] w (Does W rb s tx k X a s' tx') := by
  rcases a.cases with hp | hp | hp | hp | hp | hp | hp | hp | hp
  · exact does_0 h f hk a hn hp hd
  · exact does_1 h f hk a hn hp hd
  · exact does_2 h f hk a hn hp hd
  · exact does_3 h f hk a hn hp hd
  · exact does_4 h f hk a hn hp hd
  · exact does_5 h f hk a hn hp hd
  · exact does_6 h f hk a hn hp hd
  · exact does_7 h f hk a hn hp hd
  · exact does_8 h f hk a hn hp hd
end
end Go.Proofs.YtnbhejbpofjamaaGreatDoor
namespace Go.Proofs.YtnbhejbpofjamaaGreatDoor
open Go.RowKit

def UniV (s : Bst) (n u : ByteArray) (c : Int) : Prop := (chkE n ≠ 0 → u = ⟨#[]⟩ ∧ c = chkE n) ∧ (chkE n = 0 → ∃ k, (∀ j, j < k → hasN s.all (nmB n j) = true) ∧ hasN s.all (nmB n k) = false ∧ u = nmB n k ∧ c = 0)
theorem UniV.same {s : Bst} {n u v : ByteArray} {c d : Int} (h : UniV s n u c) (h2 : UniV s n v d) : v = u ∧ d = c := by
  by_cases h0 : chkE n = 0
  · obtain ⟨k, a1, a2, rfl, rfl⟩ := h.2 h0
    obtain ⟨j, b1, b2, rfl, rfl⟩ := h2.2 h0
    have : j = k := by
      rcases Nat.lt_trichotomy j k with h9 | h9 | h9
      · rw [a1 j h9] at b2; cases b2
      · exact h9
      · rw [b1 k h9] at a2; cases a2
    subst this
    exact ⟨rfl, rfl⟩
  · obtain ⟨rfl, rfl⟩ := h.1 h0
    obtain ⟨rfl, rfl⟩ := h2.1 h0
    exact ⟨rfl, rfl⟩
theorem UniRes.val {s : Bst} {n : ByteArray} {w w' : World} {e : Ending} (h : UniRes s n w e w') : Below w.heap.size w w' ∧ ∃ u c, e = .returned (.tuple #[.string u, .int .i64 c]) ∧ UniV s n u c := by
  obtain ⟨hb, h1, h2⟩ := h
  refine ⟨hb, ?_⟩
  by_cases h0 : chkE n = 0
  · obtain ⟨k, a1, a2, rfl⟩ := h2 h0
    exact ⟨_, _, rfl, fun h9 => absurd h0 h9, fun _ => ⟨k, a1, a2, rfl, rfl⟩⟩
  · obtain rfl := h1 h0
    exact ⟨_, _, rfl, fun _ => ⟨rfl, rfl⟩, fun h9 => absurd h9 h0⟩
section
variable {W w w' : World} {rb sb : Nat} {s : Bst} {tx : Nat → Bz} {k : Nat} {X R H : Heap}
theorem TZ.list (h : TZ W w rb s tx k X) (f : Fit s k) (hk : k ≤ 400) : Calls Tryz.prog 24 #[.pointer (some ⟨rb, 0, none⟩)] w (ListO w s.order) := by
  obtain ⟨r, ty, ⟨v, E, h1, _⟩, m⟩ := h
  rw [← m.ids]
  exact rlist_any26 h1 (FindR_len m f (by omega))
theorem TZ.current (h : TZ W w rb s tx k X) : Calls Tryz.prog 25 #[.pointer (some ⟨rb, 0, none⟩)] w fun e w' => e = .returned (.int .i64 (s.cur : Int)) ∧ w = w' := by
  obtain ⟨r, ty, ⟨v, E, h1, _⟩, m⟩ := h
  rw [← m.cu]
  exact rcurrent_any h1
theorem TZ.other (h : TZ W w rb s tx k X) (f : Fit s k) (hk : k ≤ 400) : Calls Tryz.prog 27 #[.pointer (some ⟨rb, 0, none⟩)] w fun e w' => e = .returned (.int .i64 (othS s : Int)) ∧ Below w.heap.size w w' := by
  obtain ⟨r, ty, ⟨v, E, h1, _⟩, m⟩ := h
  refine (rother_any h1 (FindR_len m f (by omega))).mono ?_
  rintro e w' ⟨rfl, q, rfl⟩
  rw [m.ids, m.cu]
  exact ⟨rfl, below_drewN (Below.refl _ _) q⟩
theorem TZ.name (h : TZ W w rb s tx k X) (f : Fit s k) (hk : k ≤ 400) (i : Int) : Calls Tryz.prog 28 #[.pointer (some ⟨rb, 0, none⟩), .int .i64 i] w fun e w' => e = .returned (nameR s i) ∧ w = w' := by
  obtain ⟨r, ty, ⟨v, E, h1, _⟩, m⟩ := h
  refine (rname_any h1 i (FindR_len m f (by omega))).mono ?_
  rintro e w' ⟨rfl, ⟨rfl, hno⟩ | ⟨x, hx, hi, rfl⟩⟩
  · unfold nameR
    rw [(m.none_ f.ok hno).1]
    exact ⟨rfl, rfl⟩
  · obtain ⟨_, y, hy, _, _, hn, _⟩ := m.some_ f.ok hx hi
    unfold nameR
    rw [hy, ← hn]
    exact ⟨rfl, rfl⟩
theorem TZ.find (h : TZ W w rb s tx k X) (f : Fit s k) (hk : k ≤ 400) (n : ByteArray) : Calls Tryz.prog 30 #[.pointer (some ⟨rb, 0, none⟩), .string n] w fun e w' => e = .returned (findR s n) ∧ w = w' := by
  obtain ⟨r, ty, ⟨v, E, h1, _⟩, m⟩ := h
  refine (rfindn_any h1 n (FindR_len m f (by omega))).mono ?_
  rintro e w' ⟨u, rfl, hu, rfl⟩
  refine ⟨?_, rfl⟩
  rcases hu with ⟨rfl, hno⟩ | ⟨y, hy, hyn, rfl⟩
  · have h9 : hasN s.all n = false := by rw [← m.has f.ok n]; exact hasR_false.2 hno
    unfold findR
    rw [List.find?_eq_none.2 fun x hx => by simpa using hasN_false.1 h9 x hx]
  · obtain ⟨x, hx, hi, hn, _⟩ := m.ev y hy
    unfold findR
    rw [find_uniq f.nn hx (hn.trans hyn), ← hi]
theorem TZ.unique (h : TZ W w rb s tx k X) (f : Fit s k) (hk : k ≤ 400) (n : ByteArray) (hs : n.size < 1000000) : Calls Tryz.prog 29 #[.pointer (some ⟨rb, 0, none⟩), .string n] w (UniRes s n w) := by
  obtain ⟨r, ty, ⟨v, E, h1, _⟩, m⟩ := h
  have hl : r.l.length ≤ 500 := by
    rw [m.len f.ok]
    have := f.len
    omega
  refine (runique_any h1 hl n hs).mono ?_
  rintro e w' ⟨hb, h2, h3⟩
  refine ⟨hb, h2, fun h0 => ?_⟩
  obtain ⟨j, a1, a2, a3⟩ := h3 h0
  exact ⟨j, fun i hi => by rw [← m.has f.ok]; exact a1 i hi, by rw [← m.has f.ok]; exact a2, a3⟩
/-- Get, and the text of what it gives, in every world from here on. -/
theorem TZ.getText (h : TZ W w rb s tx k X) (f : Fit s k) (hk : k ≤ 400) (i : Int) : Calls Tryz.prog 31 #[.pointer (some ⟨rb, 0, none⟩), .int .i64 i] w fun e w' => w = w' ∧ ((e = .returned (.pointer none) ∧ fndB s.all i = none) ∨ ∃ b x tb, e = .returned (.pointer (some ⟨b, 0, none⟩)) ∧ fndB s.all i = some x ∧ ∀ w', Below w.heap.size w w' → (∀ c ∈ (tx x.b).L, okc c) →
    w'.cell? ⟨b, 0, none⟩ = some (.pointer (some ⟨tb, 0, none⟩)) ∧ Calls Tryz.prog 33 #[.pointer (some ⟨tb, 0, none⟩)] w' fun e w'' => e = .returned (.string (strOf (tx x.b).L)) ∧ Below w'.heap.size w' w'') := by
  obtain ⟨r, ty, hz, m⟩ := h
  obtain ⟨v, E, h1, hE, hZ⟩ := hz.at_
  refine (rget_any26 h1 i (FindR_len m f (by omega))).mono ?_
  rintro e w' ⟨rfl, ⟨rfl, hno⟩ | ⟨x, hx, hi, rfl⟩⟩
  · exact ⟨rfl, .inl ⟨rfl, (m.none_ f.ok hno).1⟩⟩
  · obtain ⟨_, y, hy, hym, hyi, _, hL⟩ := m.some_ f.ok hx hi
    obtain ⟨z, hz', ez⟩ := hZ x hx
    obtain ⟨A, B, rfl, hp⟩ := ys_take hz'
    have hk := hE _ hz'
    have h2 : Own W w (yHeap z (ty x.b) ++ (rsHead rb v r ++ (ysHeap (A ++ B) ++ X))) := h1.own.perm (by
      have h3 := hp (z, ty x.b)
      refine (List.Perm.append_left _ (h3.append_right X)).trans ?_
      classical
      rw [List.perm_iff_count]
      intro q
      simp only [List.count_append]
      omega)
    have h4 := hk.at_ h2
    refine ⟨rfl, .inr ⟨x.b, y, z.tb, rfl, hy, fun w' hb hok => ?_⟩⟩
    rw [hL] at hok ⊢
    have h5 := h4.below hb
    refine ⟨?_, yall_any h5 hk.h6 hok⟩
    rw [← ez]
    exact (h5.blk.cell 0).trans rfl
/-- The two, in one world. -/
def Two (W w : World) (sb rb : Nat) (s : Bst) (tx : Nat → Bz) (k : Nat) (R : Heap) : Prop := ∃ H, RH rb s tx k H ∧ LZ W w sb s tx k (H ++ R)
theorem Two.tz (h : Two W w sb rb s tx k R) : ∃ X, TZ W w rb s tx k X := by
  obtain ⟨H, h1, h2⟩ := h
  obtain ⟨H2, _, ho⟩ := h2.setH
  exact ⟨_, h1.tz (ho.perm (List.perm_append_comm_assoc _ _ _))⟩
theorem Two.lz (h : Two W w sb rb s tx k R) : ∃ X, LZ W w sb s tx k X := by
  obtain ⟨H, h1, h2⟩ := h
  exact ⟨_, h2⟩
theorem Two.below (h : Two W w sb rb s tx k R) (hb : Below w.heap.size w w') : Two W w' sb rb s tx k R := by
  obtain ⟨H, h1, h2⟩ := h
  exact ⟨H, h1, h2.below hb⟩
theorem Two.fit (h : Two W w sb rb s tx k R) : Fit s k := by
  obtain ⟨H, h1, h2⟩ := h
  exact h2.fit
theorem Two.bel (h : Two W w sb rb s tx k R) : Below W.heap.size W w := by
  obtain ⟨H, h1, h2⟩ := h
  exact h2.bel
def Mid (W w : World) (sb rb : Nat) (s : Bst) (tx : Nat → Bz) (s' : Bst) (tx' : Nat → Bz) (k : Nat) (R : Heap) : Prop := ∃ H2, SetH sb s' tx' (k + 1) H2 ∧ TZ W w rb s tx k (H2 ++ R)
theorem Two.do_ (h : Two W w sb rb s tx k R) (hR : Rules W) (hk : k ≤ 400) (a : Ab) (hn : a.n.size ≤ 300) : Calls Tryz.prog 11 #[.pointer (some ⟨sb, 0, none⟩), a.val] w fun e w' => e = .returned (.tuple #[.int .i64 (doI s a), .int .i64 (doE s tx a)]) ∧ ∃ s' tx', DoR s tx a s' tx' ∧ Mid W w' sb rb s tx s' tx' k R := by
  obtain ⟨H, h1, h2⟩ := h
  refine (do_any h2 hR hk a hn).mono ?_
  rintro e w' ⟨rfl, s', tx', hd, h3⟩
  obtain ⟨H2, h4, ho⟩ := h3.setH
  exact ⟨rfl, s', tx', hd, H2, h4, h1.tz (ho.perm (List.perm_append_comm_assoc _ _ _))⟩
theorem Mid.bel {s' : Bst} {tx' : Nat → Bz} (h : Mid W w sb rb s tx s' tx' k R) : Below W.heap.size W w := by
  obtain ⟨H2, h1, h2⟩ := h
  obtain ⟨H, _, ho⟩ := h2.split
  exact ho.bel
theorem Mid.does {s' : Bst} {tx' : Nat → Bz} (h : Mid W w sb rb s tx s' tx' k R) (f : Fit s k) (hk : k ≤ 400) (a : Ab) (hn : a.n.size ≤ 300) (hd : DoR s tx a s' tx') : Calls Tryz.prog 23 #[.pointer (some ⟨rb, 0, none⟩), a.val] w fun e w' => e = .returned (.tuple #[.int .i64 (doI s a), .int .i64 (doE s tx a)]) ∧ Two W w' sb rb s' tx' (k + 1) R := by
  obtain ⟨H2, h1, h2⟩ := h
  refine (does_any h2 f hk a hn hd).mono ?_
  rintro e w' ⟨rfl, h3⟩
  obtain ⟨H, h4, ho⟩ := h3.split
  exact ⟨rfl, H, h4, h1.lz (ho.perm (List.perm_append_comm_assoc _ _ _))⟩
/-- The program's set, ahead of the reference's. -/
theorem two_new {g bp : Nat} (h : LZ W w sb (start 1 2 3 g bp) (fun _ => ⟨[], 0, 1, 2, 3⟩) 0 R) : Calls Tryz.prog 22 #[.int .i64 1, .int .i64 2, .int .i64 3] w fun e w' => ∃ rb, e = .returned (.pointer (some ⟨rb, 0, none⟩)) ∧ Two W w' sb rb (start 1 2 3 g bp) (fun _ => ⟨[], 0, 1, 2, 3⟩) 0 R := by
  obtain ⟨H2, h1, ho⟩ := h.setH
  refine (rz_new ho).mono ?_
  rintro e w' ⟨rb, zp, rfl, h2⟩
  refine ⟨rb, rfl, ?_⟩
  have hm : Mt (start 1 2 3 g bp) (fun _ => ⟨[], 0, 1, 2, 3⟩) ⟨[⟨0, scr, zp⟩], 1, 0⟩ (fun _ => ⟨[], 0, 1, 2, 3⟩) 0 := by
    refine ⟨rfl, rfl, rfl, fun e he => ?_, by simp, fun e he => Nat.le_refl _⟩
    obtain rfl := List.mem_singleton.1 he
    exact ⟨_, List.mem_cons_self .., rfl, rfl, rfl⟩
  have h3 : TZ W w' rb (start 1 2 3 g bp) (fun _ => ⟨[], 0, 1, 2, 3⟩) 0 (H2 ++ R) := ⟨_, _, h2, hm⟩
  obtain ⟨H, h4, ho2⟩ := h3.split
  exact ⟨H, h4, h1.lz (ho2.perm (List.perm_append_comm_assoc _ _ _))⟩
end
end Go.Proofs.YtnbhejbpofjamaaGreatDoor
namespace Go.Proofs.YtnbhejbpofjamaaGreatDoor
open Go.RowKit

theorem findR_form2 (s : Bst) (n : ByteArray) : ∃ i b, findR s n = .tuple #[.int .i64 i, .bool b] := by
  unfold findR
  split
  · exact ⟨_, _, rfl⟩
  · exact ⟨_, _, rfl⟩
theorem nameR_form2 (s : Bst) (i : Int) : ∃ n b, nameR s i = .tuple #[.string n, .bool b] := by
  rcases nameR_form s i with ⟨_, h, _⟩ | ⟨x, _, h, _⟩
  · exact ⟨_, _, h⟩
  · exact ⟨_, _, h⟩
theorem Two.other {W w : World} {sb rb : Nat} {s : Bst} {tx : Nat → Bz} {k : Nat} {R : Heap} (h : Two W w sb rb s tx k R) (hk : k ≤ 900) : Calls Tryz.prog 26 #[.pointer (some ⟨sb, 0, none⟩)] w fun e w' => e = .returned (.int .i64 (othS s : Int)) ∧ Two W w' sb rb s tx k R := by
  obtain ⟨H, h1, h2⟩ := h
  refine (h2.other hk).mono ?_
  rintro e w' ⟨rfl, h3⟩
  exact ⟨rfl, H, h1, h3⟩
theorem Two.copy {W w : World} {sb rb : Nat} {s : Bst} {tx : Nat → Bz} {k : Nat} {R : Heap} (h : Two W w sb rb s tx k R) (hk : k ≤ 900) : Calls Tryz.prog 34 #[.pointer (some ⟨sb, 0, none⟩)] w fun e w' => ∃ ob X', e = .returned (.pointer (some ⟨ob, 0, none⟩)) ∧ Two W w' sb rb s tx k X' ∧ Calls Tryz.prog 12 #[.pointer (some ⟨ob, 0, none⟩)] w' (ListO w' s.order) := by
  obtain ⟨H, h1, h2⟩ := h
  refine (h2.copy hk).mono ?_
  rintro e w' ⟨ob, s2, tx2, H2, rfl, h3, h4, h5⟩
  refine ⟨ob, H2 ++ R, rfl, ⟨H, h1, h4.perm (List.perm_append_comm_assoc _ _ _)⟩, ?_⟩
  obtain ⟨H9, _, h6⟩ := h4.flip h3
  rw [← h5.ord]
  exact h6.listO hk
theorem Two.okc {W w : World} {sb rb : Nat} {s : Bst} {tx : Nat → Bz} {k : Nat} {R : Heap} (h : Two W w sb rb s tx k R) {x : Nb} (hx : x ∈ s.all) : ∀ c ∈ (tx x.b).L, okc c := by
  obtain ⟨H, h1, h2⟩ := h
  obtain ⟨z, E, _, hk, _⟩ := h2.buf hx
  exact hk.ok.okc
set_option maxRecDepth 100000 in
set_option maxHeartbeats 16000000 in
theorem script_walk (l : List Ab) (A : Option Addr) (c : Nat) (id : Int) (name : ByteArray) (W : World) (hrd : Rd W (.slice A l.length c) 3 l.length (rows Ab.cells l)) (hm : l.length ≤ maxLen) (hR : Rules W) (hP : Pow W) :
    Calls Tryz.prog 5 #[.slice A l.length c, .int .i64 id, .string name] W fun e w' => e = .returned (.bool true) ∧ Below W.heap.size W w' := by
  have HLV := hide (lives_any W hR.tabs hP)
  have HLI := hide (fun w1 (hb : Below W.heap.size W w1) => light_any l (.slice A l.length c) w1 (hrd.belowN hb) hm)
  have HRD := hide hrd
  have HR := hide hR
  have HP := hide hP
  obtain ⟨nn, hnn⟩ : ∃ nn, nn = l.length := ⟨_, rfl⟩
  rw [← hnn] at HRD HLI ⊢
  have HNN := hide hnn
  have hl2 : (nn : Int) ≤ 9223372036854775807 := by unfold maxLen at hm; omega
  clear hrd hm hR hP hnn
  cases hli : lightB l with
  | false =>
    rw [hli] at HLI
    clear hli
    go_enter Tryz.func5, Tryz.ntmps5
    go_wp2_with fail
    refine Calls.mono HLV.out ?_
    rintro e w0 ⟨rfl, b0⟩
    have HB0 := hide b0
    clear b0
    go_wp2_with fail
    refine Calls.mono (HLI.out _ HB0.out) ?_
    rintro e w1 ⟨rfl, rfl⟩
    go_wp2_with fail
    go_ret
    exact ⟨rfl, HB0.out⟩
  | true =>
    have HLL := hide (lightB_iff.1 hli)
    rw [hli] at HLI
    clear hli
    by_cases hbig : 300 < name.size
    · have z1 : decide ((300 : Int) < (name.size : Int)) = true := by simp; omega
      have z2 : decide (300 < name.size) = true := by simpa using hbig
      clear hbig
      go_enter Tryz.func5, Tryz.ntmps5
      go_wp2_with fail
      refine Calls.mono HLV.out ?_
      rintro e w0 ⟨rfl, b0⟩
      have HB0 := hide b0
      clear b0
      go_wp2_with fail
      refine Calls.mono (HLI.out _ HB0.out) ?_
      rintro e w1 ⟨rfl, rfl⟩
      go_wp2_with fail
      go_ret
      exact ⟨rfl, HB0.out⟩
    · have z1 : decide ((300 : Int) < (name.size : Int)) = false := by simp; omega
      have z2 : decide (300 < name.size) = false := by simpa using hbig
      have HNS := hide hbig
      have hn60 : (nn : Int) ≤ 60 := by have := HLL.out.2; have := HNN.out; omega
      clear hbig hl2
      go_enter Tryz.func5, Tryz.ntmps5
      go_wp2_with fail
      refine Calls.mono HLV.out ?_
      rintro e w0 ⟨rfl, b0⟩
      have HB0 := hide b0
      clear b0 HLV
      go_wp2_with fail
      refine Calls.mono (HLI.out _ HB0.out) ?_
      rintro e w1 ⟨rfl, rfl⟩
      clear HLI
      go_wp2_with fail
      refine Calls.mono (lz_new (Own.refl w0) (HR.out.tabs.below HB0.out)) ?_
      rintro e w1 ⟨sb, g0, b0, rfl, h1⟩
      have HTN := hide (two_new h1)
      have HR0 := hide (HR.out.below HB0.out)
      have HP0 := hide (HP.out.below HB0.out)
      clear h1
      go_wp2_with fail
      refine Calls.mono HTN.out ?_
      rintro e w2 ⟨rb, rfl, h2⟩
      have H1 := hide h2
      clear h2 HTN
      go_wp2_with fail
      go_loopw [9] (fun iv wr => ∃ (k : Nat) (s : Bst) (tx : Nat → Bz), k ≤ nn ∧ iv = .int .i64 (k : Int) ∧ Two w0 wr sb rb s tx k []) (fun iv _ => nn - (intOf iv).toNat)
      case atStart => exact ⟨0, _, _, Nat.zero_le _, rfl, H1.out⟩
      case round =>
        obtain ⟨k, s, tx, hk, rfl, hz⟩ := hrel
        have HZ := hide hz
        have HK := hide hk
        have HACT := hide (fun (w' : World) (hb : Below W.heap.size W w') (a : Ab) (ha : l[k]? = some a) => (HRD.out.belowN hb).act HNN.out ha)
        clear hz
        by_cases hlt : k < nn
        · have y1 : decide (k < nn) = true := by simpa using hlt
          have y2 : decide ((k : Int) < (nn : Int)) = true := by simp; omega
          have y3 : (k : Int) < (nn : Int) := by omega
          have HK6 := hide (show k + 1 ≤ 60 from by omega)
          obtain ⟨a, ha⟩ : ∃ a, l[k]? = some a := ⟨_, List.getElem?_eq_getElem (by rw [← HNN.out]; exact hlt)⟩
          have HAN := hide (HLL.out.1 a (List.mem_of_getElem? ha))
          have HACT := hide (fun (w' : World) (hb : Below W.heap.size W w') => HACT.out w' hb a ha)
          obtain ⟨g, off, rfl, p0, p1, p2⟩ := HACT.out _ (HB0.out.trans (HZ.out.bel.mono HB0.out.size))
          have HDO := HZ.out.do_ HR0.out (by have := HK6.out; omega) a HAN.out
          obtain ⟨I, hI⟩ : ∃ I, I = doI s a := ⟨_, rfl⟩
          obtain ⟨E, hE⟩ : ∃ E, E = doE s tx a := ⟨_, rfl⟩
          rw [← hI, ← hE] at HDO
          have HI := hide hI
          have HE := hide hE
          have HDO := hide HDO
          have HLT := hide hlt
          clear hlt hk ha hI hE
          have z1 : (I != I) = false := by simp
          have z2 : (E != E) = false := by simp
          go_wp2_with fail
          refine Calls.mono HDO.out ?_
          rintro e w3 ⟨rfl, s2, tx2, hd, h2⟩
          have HM := hide h2
          have HDS := h2.does HZ.out.fit (by have := HK6.out; omega) a HAN.out hd
          rw [← HI.out, ← HE.out] at HDS
          have HDS := hide HDS
          obtain ⟨g2, off2, e2, q0, q1, q2⟩ := HACT.out _ (HB0.out.trans (HM.out.bel.mono HB0.out.size))
          cases e2
          clear hd h2 p0 p1 p2 HDO
          go_wp2_with fail
          refine Calls.mono HDS.out ?_
          rintro e w4 ⟨rfl, h4⟩
          have H4 := hide h4
          obtain ⟨X4, hl4⟩ := h4.lz
          have HLS := hide (hl4.listO (by have := HK6.out; omega))
          have HOK := hide h4.fit.ok
          have HF := hide h4.fit
          have HM6 := hide (show s2.order.length ≤ 1000 from by have h9 := h4.fit.len; rw [← h4.fit.ok.len] at h9; have := HK6.out; omega)
          clear h4 hl4 q0 q1 q2 HDS HM
          go_wp2_with fail
          refine Calls.mono HLS.out ?_
          rintro e w5 ⟨v5, rfl, s5, f5, b5⟩
          obtain ⟨A5, c5, rfl, _, _⟩ := Sl.form s5
          have R5 := hide (Sl.rd s5)
          have H5 := hide (H4.out.below b5)
          obtain ⟨X5, ht5⟩ := H5.out.tz
          have HLS2 := hide (ht5.list HF.out (by have := HK6.out; omega))
          clear s5 f5 b5 ht5 HLS
          go_wp2_with fail
          refine Calls.mono HLS2.out ?_
          rintro e w6 ⟨v6, rfl, s6, f6, b6⟩
          obtain ⟨A6, c6, rfl, _, _⟩ := Sl.form s6
          have H6 := hide (H5.out.below b6)
          have HSM := hide (same_ints w6 s2.order s2.order.length s2.order.length A5 A6 c5 c6 rfl rfl (R5.out.belowN b6) (Sl.rd s6) (by have := HM6.out; omega))
          clear s6 f6 b6 HLS2 R5
          go_wp2_with fail
          refine Calls.mono HSM.out ?_
          rintro e w7 ⟨rfl, b7⟩
          have H7 := hide (H6.out.below b7)
          obtain ⟨X7, hl7⟩ := H7.out.lz
          obtain ⟨Y7, ht7⟩ := H7.out.tz
          obtain ⟨cu, hcu⟩ : ∃ cu : Int, cu = (s2.cur : Int) := ⟨_, rfl⟩
          have HC1 := hl7.current
          have HC2 := ht7.current
          rw [← hcu] at HC1 HC2
          have HC1 := hide HC1
          have HC2 := hide HC2
          have z3 : (cu != cu) = false := by simp
          clear b7 hl7 ht7 HSM hcu
          go_wp2_with fail
          refine Calls.mono HC1.out ?_
          rintro e w8 ⟨rfl, rfl⟩
          go_wp2_with fail
          refine Calls.mono HC2.out ?_
          rintro e w8 ⟨rfl, rfl⟩
          obtain ⟨oth, hoth⟩ : ∃ q : Int, q = (othS s2 : Int) := ⟨_, rfl⟩
          have HO1 := H7.out.other (by have := HK6.out; omega)
          rw [← hoth] at HO1
          have HO1 := hide HO1
          have HOTH := hide hoth
          have z4 : (oth != oth) = false := by simp
          clear hoth HC1 HC2
          go_wp2_with fail
          refine Calls.mono HO1.out ?_
          rintro e w8 ⟨rfl, h8⟩
          have H8 := hide h8
          obtain ⟨Y8, ht8⟩ := H8.out.tz
          have HO2 := ht8.other HF.out (by have := HK6.out; omega)
          rw [← HOTH.out] at HO2
          have HO2 := hide HO2
          clear h8 ht8 HO1
          go_wp2_with fail
          refine Calls.mono HO2.out ?_
          rintro e w9 ⟨rfl, b9⟩
          have H9 := hide (H8.out.below b9)
          obtain ⟨X9, hl9⟩ := H9.out.lz
          obtain ⟨Y9, ht9⟩ := H9.out.tz
          have HMN := hl9.many
          obtain ⟨m, hm⟩ : ∃ m, m = s2.order.length := ⟨_, rfl⟩
          rw [← HOK.out.len, ← hm] at HMN
          have HMN := hide HMN
          have HLS := hide (ht9.list HF.out (by have := HK6.out; omega))
          have HMM := hide hm
          have z5 : ((m : Int) != (m : Int)) = false := by simp
          clear b9 hl9 ht9 HO2 hm
          go_wp2_with fail
          refine Calls.mono HMN.out ?_
          rintro e w10 ⟨rfl, rfl⟩
          go_wp2_with fail
          refine Calls.mono HLS.out ?_
          rintro e w10 ⟨v10, rfl, s10, f10, b10⟩
          obtain ⟨A10, c10, rfl, _, _⟩ := Sl.form s10
          have H10 := hide (H9.out.below b10)
          rw [← HMM.out]
          clear s10 f10 b10 HLS HMN
          go_wp2_with fail
          go_roundw
          case rel => exact ⟨k + 1, s2, tx2, HLT.out, by go_num, H10.out⟩
          case measure => have := HLT.out; simp [intOf]; omega
        · have y1 : decide (k < nn) = false := by simpa using hlt
          have y2 : decide ((k : Int) < (nn : Int)) = false := by simp; omega
          obtain rfl : k = nn := by omega
          have HF := hide HZ.out.fit
          have HNS2 := hide (show name.size ≤ 300 from by have := HNS.out; omega)
          have HK6 := hide (show k ≤ 60 from by omega)
          obtain ⟨X3, hl3⟩ := HZ.out.lz
          obtain ⟨Y3, ht3⟩ := HZ.out.tz
          obtain ⟨nm, isb, hnm⟩ := nameR_form2 s id
          have HN1 := hl3.name id
          have HN2 := ht3.name HF.out (by have := HK6.out; omega) id
          rw [hnm] at HN1 HN2
          have HN1 := hide HN1
          have HN2 := hide HN2
          have t1 : (nm.toList == nm.toList) = true := (Lib.bytes_beq_iff _ _).2 rfl
          have z1 : (isb != isb) = false := by cases isb <;> rfl
          have HU1 := hide (hl3.unique (by have := HK6.out; omega) HR0.out.tabs HP0.out name (by have := HNS2.out; omega))
          clear hk hlt H1 hl3 ht3 hnm HACT
          go_wp2_with fail
          refine Calls.mono HN1.out ?_
          rintro e w4 ⟨rfl, rfl⟩
          go_wp2_with fail
          refine Calls.mono HN2.out ?_
          rintro e w4 ⟨rfl, rfl⟩
          clear HN1 HN2
          go_wp2_with fail
          refine Calls.mono HU1.out ?_
          rintro e w4 hu0
          obtain ⟨b4, u, c4, rfl, hu⟩ := hu0.val
          clear hu0
          have HU := hide hu
          have H4 := hide (HZ.out.below b4)
          obtain ⟨Y4, ht4⟩ := H4.out.tz
          have HU2 := hide (ht4.unique HF.out (by have := HK6.out; omega) name (by have := HNS2.out; omega))
          clear hu b4 ht4 HU1
          go_wp2_with fail
          refine Calls.mono HU2.out ?_
          rintro e w5 hv0
          obtain ⟨b5, v, d4, rfl, hv⟩ := hv0.val
          clear hv0
          obtain ⟨rfl, rfl⟩ := HU.out.same hv
          have t2 : (v.toList == v.toList) = true := (Lib.bytes_beq_iff _ _).2 rfl
          have z2 : (d4 != d4) = false := by simp
          have H5 := hide (H4.out.below b5)
          obtain ⟨X5, hl5⟩ := H5.out.lz
          obtain ⟨fi, fb, hff⟩ := findR_form2 s name
          have HF1 := hl5.find name
          rw [hff] at HF1
          have HF1 := hide HF1
          have HFF := hide hff
          have z3 : (fi != fi) = false := by simp
          have z4 : (fb != fb) = false := by cases fb <;> rfl
          clear hv b5 hl5 hff HU2
          go_wp2_with fail
          refine Calls.mono HF1.out ?_
          rintro e w6 ⟨rfl, b6⟩
          have H6 := hide (H5.out.below b6)
          obtain ⟨X6, hl6⟩ := H6.out.lz
          obtain ⟨Y6, ht6⟩ := H6.out.tz
          have HF2 := ht6.find HF.out (by have := HK6.out; omega) name
          rw [HFF.out] at HF2
          have HF2 := hide HF2
          have HG1 := hide (hl6.get id)
          have HG2 := hide (ht6.getText HF.out (by have := HK6.out; omega) id)
          clear b6 hl6 ht6 HF1
          go_wp2_with fail
          refine Calls.mono HF2.out ?_
          rintro e w7 ⟨rfl, rfl⟩
          rcases nameR_form s id with ⟨hf, _, hg⟩ | ⟨x, hf, _, hg⟩
          · as_aux_lemma =>
              rw [hg] at HG1
              have HF0 := hide hf
              clear hf hg HF2
              go_wp2_with fail
              refine Calls.mono HG1.out ?_
              rintro e w7 ⟨rfl, rfl⟩
              go_wp2_with fail
              refine Calls.mono HG2.out ?_
              rintro e w7 ⟨rfl, h7⟩
              rcases h7 with ⟨rfl, _⟩ | ⟨b, y, tb, _, h7, _⟩
              · go_upto_region 22 with fail
                obtain ⟨w7, hw7⟩ : ∃ y : World, y = w6.drew := ⟨_, rfl⟩
                have HB7 := hide (show Below w6.heap.size w6 w7 from hw7 ▸ (Below.refl _ w6).drew)
                have H7 := hide (H6.out.below HB7.out)
                refine wp_region_d (S := fun y => True) (D := []) (by kernel_rfl) ?_
                change wpAnyD _ _ _ _ _ _ _ _ _ w6.drew
                rw [← hw7]
                clear hw7
                refine wpAnyD_takeW (i := 0) (oi := { dst := some 179, op := Op.move (Operand.tmp 26), type := 39, pos := "law.go:142", after := #[], guard := none }) (v := ?_) rfl (by kernel_rfl) (by kernel_rfl) (by kernel_rfl) (fun _ _ _ h => h) (Or.inl ⟨by rfl, ?_⟩) ?_
                rotate_left
                · intro w hSw
                  clear hSw
                  go_simp
                  all_goals with_reducible rfl
                simp only [Act.put, List.setIfInBounds_toArray, List.set_cons_zero, List.set_cons_succ]
                refine wpAnyD_takeW (i := 1) (oi := { dst := some 180, op := Op.binOp BinOp.eql 39 (Operand.tmp 179) (Operand.const (Value.pointer none)) 39, type := 4, pos := "law.go:142", after := #[{ on := 0, ground := Ground.data }], guard := none }) (v := ?_) rfl (by kernel_rfl) (by kernel_rfl) (by kernel_rfl) (fun _ _ _ h => h) (Or.inl ⟨by rfl, ?_⟩) ?_
                rotate_left
                · intro w hSw
                  clear hSw
                  go_simp
                  all_goals with_reducible rfl
                simp only [Act.put, List.setIfInBounds_toArray, List.set_cons_zero, List.set_cons_succ]
                refine wpAnyD_takeW (i := 2) (oi := { dst := some 181, op := Op.move (Operand.tmp 180), type := 4, pos := "law.go:142", after := #[{ on := 1, ground := Ground.data }], guard := none }) (v := ?_) rfl (by kernel_rfl) (by kernel_rfl) (by kernel_rfl) (fun _ _ _ h => h) (Or.inl ⟨by rfl, ?_⟩) ?_
                rotate_left
                · intro w hSw
                  clear hSw
                  go_simp
                  all_goals with_reducible rfl
                simp only [Act.put, List.setIfInBounds_toArray, List.set_cons_zero, List.set_cons_succ]
                refine wpAnyD_takeW (i := 3) (oi := { dst := some 182, op := Op.move (Operand.tmp 26), type := 39, pos := "law.go:142", after := #[{ on := 2, ground := Ground.guard }], guard := some (2, false) }) (v := undef) rfl (by kernel_rfl) (by kernel_rfl) (by kernel_rfl) (fun _ _ _ h => h) (Or.inr ⟨by rfl, rfl⟩) ?_
                simp only [Act.put, List.setIfInBounds_toArray, List.set_cons_zero, List.set_cons_succ]
                refine wpAnyD_takeW (i := 5) (oi := { dst := some 184, op := Op.move (Operand.tmp 27), type := 51, pos := "law.go:142", after := #[{ on := 2, ground := Ground.guard }], guard := some (2, false) }) (v := undef) rfl (by kernel_rfl) (by kernel_rfl) (by kernel_rfl) (fun _ _ _ h => h) (Or.inr ⟨by rfl, rfl⟩) ?_
                simp only [Act.put, List.setIfInBounds_toArray, List.set_cons_zero, List.set_cons_succ]
                refine wpAnyD_takeW (i := 6) (oi := { dst := some 185, op := Op.nilCheck (Operand.tmp 184), type := 0, pos := "law.go:142", after := #[{ on := 5, ground := Ground.data }, { on := 2, ground := Ground.guard }], guard := some (2, false) }) (v := undef) rfl (by kernel_rfl) (by kernel_rfl) (by kernel_rfl) (fun _ _ _ h => h) (Or.inr ⟨by rfl, rfl⟩) ?_
                simp only [Act.put, List.setIfInBounds_toArray, List.set_cons_zero, List.set_cons_succ]
                refine wpAnyD_takeW (i := 7) (oi := { dst := some 186, op := Op.fieldAddr 61 (Operand.tmp 185) 0, type := 0, pos := "law.go:142", after := #[{ on := 6, ground := Ground.data }, { on := 2, ground := Ground.guard }], guard := some (2, false) }) (v := undef) rfl (by kernel_rfl) (by kernel_rfl) (by kernel_rfl) (fun _ _ _ h => h) (Or.inr ⟨by rfl, rfl⟩) ?_
                simp only [Act.put, List.setIfInBounds_toArray, List.set_cons_zero, List.set_cons_succ]
                refine wpAnyD_takeW (i := 8) (oi := { dst := some 187, op := Op.load 54 (Operand.tmp 186), type := 54, pos := "law.go:142", after := #[{ on := 7, ground := Ground.data }, { on := 2, ground := Ground.guard }], guard := some (2, false) }) (v := undef) rfl (by kernel_rfl) (by kernel_rfl) (by kernel_rfl) (fun _ _ _ h => h) (Or.inr ⟨by rfl, rfl⟩) ?_
                simp only [Act.put, List.setIfInBounds_toArray, List.set_cons_zero, List.set_cons_succ]
                refine wpAnyD_takeW (i := 4) (oi := { dst := some 183, op := Op.call { callee := Callee.value (Operand.func 32), args := #[Operand.tmp 182], argTypes := #[39] }, type := 9, pos := "law.go:142", after := #[{ on := 3, ground := Ground.data }, { on := 2, ground := Ground.chain }, { on := 2, ground := Ground.guard }], guard := some (2, false) }) (v := undef) rfl (by kernel_rfl) (by kernel_rfl) (by kernel_rfl) (fun _ _ _ h => h) (Or.inr ⟨by rfl, rfl⟩) ?_
                simp only [Act.put, List.setIfInBounds_toArray, List.set_cons_zero, List.set_cons_succ]
                refine wpAnyD_takeW (i := 9) (oi := { dst := some 188, op := Op.call { callee := Callee.value (Operand.func 33), args := #[Operand.tmp 187], argTypes := #[54] }, type := 9, pos := "law.go:142", after := #[{ on := 8, ground := Ground.data }, { on := 4, ground := Ground.chain }, { on := 2, ground := Ground.guard }], guard := some (2, false) }) (v := undef) rfl (by kernel_rfl) (by kernel_rfl) (by kernel_rfl) (fun _ _ _ h => h) (Or.inr ⟨by rfl, rfl⟩) ?_
                simp only [Act.put, List.setIfInBounds_toArray, List.set_cons_zero, List.set_cons_succ]
                refine wpAnyD_takeW (i := 10) (oi := { dst := some 189, op := Op.binOp BinOp.eql 9 (Operand.tmp 183) (Operand.tmp 188) 9, type := 4, pos := "law.go:142", after := #[{ on := 4, ground := Ground.data }, { on := 9, ground := Ground.data }, { on := 2, ground := Ground.guard }], guard := some (2, false) }) (v := undef) rfl (by kernel_rfl) (by kernel_rfl) (by kernel_rfl) (fun _ _ _ h => h) (Or.inr ⟨by rfl, rfl⟩) ?_
                simp only [Act.put, List.setIfInBounds_toArray, List.set_cons_zero, List.set_cons_succ]
                refine wpAnyD_takeW (i := 11) (oi := { dst := some 190, op := Op.pick (Operand.tmp 181) (Operand.const (Value.bool true)) (Operand.tmp 189), type := 4, pos := "law.go:142", after := #[{ on := 2, ground := Ground.data }, { on := 10, ground := Ground.data }], guard := none }) (v := ?_) rfl (by kernel_rfl) (by kernel_rfl) (by kernel_rfl) (fun _ _ _ h => h) (Or.inl ⟨by rfl, ?_⟩) ?_
                rotate_left
                · intro w hSw
                  clear hSw
                  go_simp
                  all_goals with_reducible rfl
                simp only [Act.put, List.setIfInBounds_toArray, List.set_cons_zero, List.set_cons_succ]
                refine wpAnyD_takeW (i := 12) (oi := { dst := some 191, op := Op.move (Operand.tmp 190), type := 4, pos := "law.go:142", after := #[{ on := 11, ground := Ground.data }, { on := 9, ground := Ground.chain }], guard := none }) (v := ?_) rfl (by kernel_rfl) (by kernel_rfl) (by kernel_rfl) (fun _ _ _ h => h) (Or.inl ⟨by rfl, ?_⟩) ?_
                rotate_left
                · intro w hSw
                  clear hSw
                  go_simp
                  all_goals with_reducible rfl
                simp only [Act.put, List.setIfInBounds_toArray, List.set_cons_zero, List.set_cons_succ]
                have H9 := H7
                have HCP := hide (H9.out.copy (by have := HK6.out; omega))
                refine wpAnyD_takeW (i := 13) (oi := { dst := some 192, op := Op.move (Operand.tmp 7), type := 25, pos := "law.go:142", after := #[{ on := 12, ground := Ground.guard }], guard := some (12, true) }) (v := ?_) rfl (by kernel_rfl) (by kernel_rfl) (by kernel_rfl) (fun _ _ _ h => h) (Or.inl ⟨by rfl, ?_⟩) ?_
                rotate_left
                · intro w hSw
                  clear hSw
                  go_simp
                  all_goals with_reducible rfl
                simp only [Act.put, List.setIfInBounds_toArray, List.set_cons_zero, List.set_cons_succ]
                refine wpAnyD_takeW (i := 16) (oi := { dst := some 195, op := Op.move (Operand.tmp 8), type := 48, pos := "law.go:142", after := #[{ on := 12, ground := Ground.guard }], guard := some (12, true) }) (v := ?_) rfl (by kernel_rfl) (by kernel_rfl) (by kernel_rfl) (fun _ _ _ h => h) (Or.inl ⟨by rfl, ?_⟩) ?_
                rotate_left
                · intro w hSw
                  clear hSw
                  go_simp
                  all_goals with_reducible rfl
                simp only [Act.put, List.setIfInBounds_toArray, List.set_cons_zero, List.set_cons_succ]
                refine wpAnyD_one (i := 14) (o := { dst := some 193, op := Op.call { callee := Callee.value (Operand.func 34), args := #[Operand.tmp 192], argTypes := #[25] }, type := 25, pos := "law.go:142", after := #[{ on := 13, ground := Ground.data }, { on := 12, ground := Ground.chain }, { on := 12, ground := Ground.guard }], guard := some (12, true) }) (by kernel_rfl) rfl (fun K hK => ?_)
                go_simp
                (with_reducible refine Calls.mono (HCP.out) ?_)
                rintro r w10 ⟨ob, X10, rfl, h10, hls⟩
                have H10 := hide h10
                have HLS := hide hls
                clear h10 hls
                refine hK _ _ (fun _ _ => trivial) ?_
                clear hK K
                try simp only [Act.put, List.setIfInBounds_toArray, List.set_cons_zero, List.set_cons_succ]
                refine wpAnyD_one (i := 15) (o := { dst := some 194, op := Op.call { callee := Callee.value (Operand.func 12), args := #[Operand.tmp 193], argTypes := #[25] }, type := 32, pos := "law.go:142", after := #[{ on := 14, ground := Ground.data }, { on := 14, ground := Ground.chain }, { on := 12, ground := Ground.guard }], guard := some (12, true) }) (by kernel_rfl) rfl (fun K hK => ?_)
                go_simp
                (with_reducible refine Calls.mono (HLS.out) ?_)
                rintro r w11 ⟨v11, rfl, s11, f11, b11⟩
                obtain ⟨A11, c11, rfl, _, _⟩ := Sl.form s11
                have R11 := hide (Sl.rd s11)
                have H11 := hide (H10.out.below b11)
                obtain ⟨Y11, ht11⟩ := H11.out.tz
                have HLS2 := hide (ht11.list HF.out (by have := HK6.out; omega))
                clear s11 f11 b11 ht11
                refine hK _ _ (fun _ _ => trivial) ?_
                clear hK K
                try simp only [Act.put, List.setIfInBounds_toArray, List.set_cons_zero, List.set_cons_succ]
                refine wpAnyD_one (i := 17) (o := { dst := some 196, op := Op.call { callee := Callee.value (Operand.func 24), args := #[Operand.tmp 195], argTypes := #[48] }, type := 32, pos := "law.go:142", after := #[{ on := 16, ground := Ground.data }, { on := 15, ground := Ground.chain }, { on := 12, ground := Ground.guard }], guard := some (12, true) }) (by kernel_rfl) rfl (fun K hK => ?_)
                go_simp
                (with_reducible refine Calls.mono (HLS2.out) ?_)
                rintro r w12 ⟨v12, rfl, s12, f12, b12⟩
                obtain ⟨A12, c12, rfl, _, _⟩ := Sl.form s12
                have H12 := hide (H11.out.below b12)
                have HSM := hide (same_ints w12 s.order s.order.length s.order.length A11 A12 c11 c12 rfl rfl (R11.out.belowN b12) (Sl.rd s12) (by have h9 := HF.out.len; rw [← HF.out.ok.len] at h9; have := HK6.out; omega))
                clear s12 f12 b12
                refine hK _ _ (fun _ _ => trivial) ?_
                clear hK K
                try simp only [Act.put, List.setIfInBounds_toArray, List.set_cons_zero, List.set_cons_succ]
                refine wpAnyD_one (i := 18) (o := { dst := some 197, op := Op.call { callee := Callee.value (Operand.func 19), args := #[Operand.tmp 194, Operand.tmp 196], argTypes := #[32, 32] }, type := 4, pos := "law.go:142", after := #[{ on := 15, ground := Ground.data }, { on := 17, ground := Ground.data }, { on := 17, ground := Ground.chain }, { on := 12, ground := Ground.guard }], guard := some (12, true) }) (by kernel_rfl) rfl (fun K hK => ?_)
                go_simp
                (with_reducible refine Calls.mono (HSM.out) ?_)
                rintro r w13 ⟨rfl, b13⟩
                have H13 := hide (H12.out.below b13)
                clear b13
                refine hK _ _ (fun _ _ => trivial) ?_
                clear hK K
                try simp only [Act.put, List.setIfInBounds_toArray, List.set_cons_zero, List.set_cons_succ]
                refine wpAnyD_takeW (i := 19) (oi := { dst := some 198, op := Op.pick (Operand.tmp 191) (Operand.tmp 197) (Operand.const (Value.bool false)), type := 4, pos := "law.go:142", after := #[{ on := 12, ground := Ground.data }, { on := 18, ground := Ground.data }], guard := none }) (v := ?_) rfl (by kernel_rfl) (by kernel_rfl) (by kernel_rfl) (fun _ _ _ h => h) (Or.inl ⟨by rfl, ?_⟩) ?_
                rotate_left
                · intro w hSw
                  clear hSw
                  go_simp
                  all_goals with_reducible rfl
                simp only [Act.put, List.setIfInBounds_toArray, List.set_cons_zero, List.set_cons_succ]
                refine wpAnyD_takeW (i := 20) (oi := { dst := some 6, op := Op.assign (Operand.tmp 198), type := 4, pos := "law.go:142", after := #[{ on := 19, ground := Ground.data }, { on := 18, ground := Ground.chain }, { on := 0, ground := Ground.phase }, { on := 1, ground := Ground.phase }, { on := 2, ground := Ground.phase }, { on := 3, ground := Ground.phase }, { on := 4, ground := Ground.phase }, { on := 5, ground := Ground.phase }, { on := 6, ground := Ground.phase }, { on := 7, ground := Ground.phase }, { on := 8, ground := Ground.phase }, { on := 9, ground := Ground.phase }, { on := 10, ground := Ground.phase }, { on := 11, ground := Ground.phase }, { on := 12, ground := Ground.phase }, { on := 13, ground := Ground.phase }, { on := 14, ground := Ground.phase }, { on := 15, ground := Ground.phase }, { on := 16, ground := Ground.phase }, { on := 17, ground := Ground.phase }, { on := 18, ground := Ground.phase }, { on := 19, ground := Ground.phase }], guard := none }) (v := ?_) rfl (by kernel_rfl) (by kernel_rfl) (by kernel_rfl) (fun _ _ _ h => h) (Or.inl ⟨by rfl, ?_⟩) ?_
                rotate_left
                · intro w hSw
                  clear hSw
                  go_simp
                  all_goals with_reducible rfl
                simp only [Act.put, List.setIfInBounds_toArray, List.set_cons_zero, List.set_cons_succ]
                refine wpAnyD_done (by kernel_rfl) ?_ _
                go_wp2_with fail
                go_ret
                exact ⟨rfl, HB0.out.trans (H13.out.bel.mono HB0.out.size)⟩
              · exact absurd (HF0.out.symm.trans h7) (by simp)
          · as_aux_lemma =>
              rw [hg] at HG1
              have HF0 := hide hf
              clear hf hg HF2
              go_wp2_with fail
              refine Calls.mono HG1.out ?_
              rintro e w7 ⟨rfl, rfl⟩
              go_wp2_with fail
              refine Calls.mono HG2.out ?_
              rintro e w7 ⟨rfl, h7⟩
              rcases h7 with ⟨_, h7⟩ | ⟨b, y, tb, rfl, h7, htx⟩
              · exact absurd (HF0.out.symm.trans h7) (by simp)
              · obtain rfl : x = y := Option.some.inj (HF0.out.symm.trans h7)
                have HTX := hide htx
                clear h7 htx
                go_upto_region 22 with fail
                obtain ⟨w7, hw7⟩ : ∃ y : World, y = w6.drew := ⟨_, rfl⟩
                have HB7 := hide (show Below w6.heap.size w6 w7 from hw7 ▸ (Below.refl _ w6).drew)
                have H7 := hide (H6.out.below HB7.out)
                have HOC := hide (H7.out.okc (fndB_mem HF0.out).1)
                obtain ⟨X7, hl7⟩ := H7.out.lz
                have HT := hl7.text (fndB_mem HF0.out).1
                obtain ⟨St, hSt⟩ : ∃ St, St = strOf (tx x.b).L := ⟨_, rfl⟩
                rw [← hSt] at HT HTX
                have HT := hide HT
                have t3 : (St.toList == St.toList) = true := (Lib.bytes_beq_iff _ _).2 rfl
                have hS := (HTX.out w7 HB7.out HOC.out).1
                clear hl7 hSt
                refine wp_region_d (S := fun y => y.cell? ⟨b, 0, none⟩ = some (.pointer (some ⟨tb, 0, none⟩))) (D := [14, 15, 17, 18]) (by kernel_rfl) ?_
                change wpAnyD _ _ _ _ _ _ _ _ _ w6.drew
                rw [← hw7]
                clear hw7
                refine wpAnyD_takeW (i := 0) (oi := { dst := some 179, op := Op.move (Operand.tmp 26), type := 39, pos := "law.go:142", after := #[], guard := none }) (v := ?_) rfl (by kernel_rfl) (by kernel_rfl) (by kernel_rfl) (fun _ _ _ h => h) (Or.inl ⟨by rfl, ?_⟩) ?_
                rotate_left
                · intro w hSw
                  clear hSw
                  go_simp
                  all_goals with_reducible rfl
                simp only [Act.put, List.setIfInBounds_toArray, List.set_cons_zero, List.set_cons_succ]
                refine wpAnyD_takeW (i := 1) (oi := { dst := some 180, op := Op.binOp BinOp.eql 39 (Operand.tmp 179) (Operand.const (Value.pointer none)) 39, type := 4, pos := "law.go:142", after := #[{ on := 0, ground := Ground.data }], guard := none }) (v := ?_) rfl (by kernel_rfl) (by kernel_rfl) (by kernel_rfl) (fun _ _ _ h => h) (Or.inl ⟨by rfl, ?_⟩) ?_
                rotate_left
                · intro w hSw
                  clear hSw
                  go_simp
                  all_goals with_reducible rfl
                simp only [Act.put, List.setIfInBounds_toArray, List.set_cons_zero, List.set_cons_succ]
                refine wpAnyD_takeW (i := 2) (oi := { dst := some 181, op := Op.move (Operand.tmp 180), type := 4, pos := "law.go:142", after := #[{ on := 1, ground := Ground.data }], guard := none }) (v := ?_) rfl (by kernel_rfl) (by kernel_rfl) (by kernel_rfl) (fun _ _ _ h => h) (Or.inl ⟨by rfl, ?_⟩) ?_
                rotate_left
                · intro w hSw
                  clear hSw
                  go_simp
                  all_goals with_reducible rfl
                simp only [Act.put, List.setIfInBounds_toArray, List.set_cons_zero, List.set_cons_succ]
                refine wpAnyD_takeW (i := 3) (oi := { dst := some 182, op := Op.move (Operand.tmp 26), type := 39, pos := "law.go:142", after := #[{ on := 2, ground := Ground.guard }], guard := some (2, false) }) (v := ?_) rfl (by kernel_rfl) (by kernel_rfl) (by kernel_rfl) (fun _ _ _ h => h) (Or.inl ⟨by rfl, ?_⟩) ?_
                rotate_left
                · intro w hSw
                  clear hSw
                  go_simp
                  all_goals with_reducible rfl
                simp only [Act.put, List.setIfInBounds_toArray, List.set_cons_zero, List.set_cons_succ]
                refine wpAnyD_takeW (i := 5) (oi := { dst := some 184, op := Op.move (Operand.tmp 27), type := 51, pos := "law.go:142", after := #[{ on := 2, ground := Ground.guard }], guard := some (2, false) }) (v := ?_) rfl (by kernel_rfl) (by kernel_rfl) (by kernel_rfl) (fun _ _ _ h => h) (Or.inl ⟨by rfl, ?_⟩) ?_
                rotate_left
                · intro w hSw
                  clear hSw
                  go_simp
                  all_goals with_reducible rfl
                simp only [Act.put, List.setIfInBounds_toArray, List.set_cons_zero, List.set_cons_succ]
                refine wpAnyD_takeW (i := 6) (oi := { dst := some 185, op := Op.nilCheck (Operand.tmp 184), type := 0, pos := "law.go:142", after := #[{ on := 5, ground := Ground.data }, { on := 2, ground := Ground.guard }], guard := some (2, false) }) (v := ?_) rfl (by kernel_rfl) (by kernel_rfl) (by kernel_rfl) (fun _ _ _ h => h) (Or.inl ⟨by rfl, ?_⟩) ?_
                rotate_left
                · intro w hSw
                  clear hSw
                  go_simp
                  all_goals with_reducible rfl
                simp only [Act.put, List.setIfInBounds_toArray, List.set_cons_zero, List.set_cons_succ]
                refine wpAnyD_takeW (i := 7) (oi := { dst := some 186, op := Op.fieldAddr 61 (Operand.tmp 185) 0, type := 0, pos := "law.go:142", after := #[{ on := 6, ground := Ground.data }, { on := 2, ground := Ground.guard }], guard := some (2, false) }) (v := ?_) rfl (by kernel_rfl) (by kernel_rfl) (by kernel_rfl) (fun _ _ _ h => h) (Or.inl ⟨by rfl, ?_⟩) ?_
                rotate_left
                · intro w hSw
                  clear hSw
                  go_simp
                  all_goals with_reducible rfl
                simp only [Act.put, List.setIfInBounds_toArray, List.set_cons_zero, List.set_cons_succ]
                refine wpAnyD_take (i := 8) (oi := { dst := some 187, op := Op.load 54 (Operand.tmp 186), type := 54, pos := "law.go:142", after := #[{ on := 7, ground := Ground.data }, { on := 2, ground := Ground.guard }], guard := some (2, false) }) (v := ?_) rfl (by kernel_rfl) (by kernel_rfl) (by kernel_rfl) (by kernel_rfl) (by kernel_rfl) (fun _ _ _ h => h) (Or.inl ⟨by rfl, ?_⟩) hS ?_
                rotate_left
                · intro w hSw
                  have hSw := hSw
                  go_simp
                  all_goals with_reducible rfl
                simp only [Act.put, List.setIfInBounds_toArray, List.set_cons_zero, List.set_cons_succ]
                refine wpAnyD_one (i := 4) (o := { dst := some 183, op := Op.call { callee := Callee.value (Operand.func 32), args := #[Operand.tmp 182], argTypes := #[39] }, type := 9, pos := "law.go:142", after := #[{ on := 3, ground := Ground.data }, { on := 2, ground := Ground.chain }, { on := 2, ground := Ground.guard }], guard := some (2, false) }) (by kernel_rfl) rfl (fun K hK => ?_)
                go_simp
                (with_reducible refine Calls.mono (HT.out) ?_)
                rintro r w8 ⟨rfl, q8, hq8⟩
                have HB8 := hide (show Below w6.heap.size w6 w8 from HB7.out.trans ((hq8 ▸ below_drewN (Below.refl _ w7) q8 : Below w7.heap.size w7 w8).mono HB7.out.size))
                have HA := hide (HTX.out w8 HB8.out HOC.out).2
                clear hS hq8
                have hS := (HTX.out w8 HB8.out HOC.out).1
                refine hK _ _ (fun _ _ => hS) ?_
                clear hK K
                try simp only [Act.put, List.setIfInBounds_toArray, List.set_cons_zero, List.set_cons_succ]
                refine wpAnyD_one (i := 9) (o := { dst := some 188, op := Op.call { callee := Callee.value (Operand.func 33), args := #[Operand.tmp 187], argTypes := #[54] }, type := 9, pos := "law.go:142", after := #[{ on := 8, ground := Ground.data }, { on := 4, ground := Ground.chain }, { on := 2, ground := Ground.guard }], guard := some (2, false) }) (by kernel_rfl) rfl (fun K hK => ?_)
                go_simp
                (with_reducible refine Calls.mono (HA.out) ?_)
                rintro r w9 ⟨rfl, b9⟩
                have HB9 := hide (HB8.out.trans (b9.mono HB8.out.size))
                clear hS b9
                have hS := (HTX.out w9 HB9.out HOC.out).1
                refine hK _ _ (fun _ _ => hS) ?_
                clear hK K
                try simp only [Act.put, List.setIfInBounds_toArray, List.set_cons_zero, List.set_cons_succ]
                refine wpAnyD_takeW (i := 10) (oi := { dst := some 189, op := Op.binOp BinOp.eql 9 (Operand.tmp 183) (Operand.tmp 188) 9, type := 4, pos := "law.go:142", after := #[{ on := 4, ground := Ground.data }, { on := 9, ground := Ground.data }, { on := 2, ground := Ground.guard }], guard := some (2, false) }) (v := ?_) rfl (by kernel_rfl) (by kernel_rfl) (by kernel_rfl) (fun _ _ _ h => h) (Or.inl ⟨by rfl, ?_⟩) ?_
                rotate_left
                · intro w hSw
                  clear hSw
                  go_simp
                  all_goals with_reducible rfl
                simp only [Act.put, List.setIfInBounds_toArray, List.set_cons_zero, List.set_cons_succ]
                refine wpAnyD_takeW (i := 11) (oi := { dst := some 190, op := Op.pick (Operand.tmp 181) (Operand.const (Value.bool true)) (Operand.tmp 189), type := 4, pos := "law.go:142", after := #[{ on := 2, ground := Ground.data }, { on := 10, ground := Ground.data }], guard := none }) (v := ?_) rfl (by kernel_rfl) (by kernel_rfl) (by kernel_rfl) (fun _ _ _ h => h) (Or.inl ⟨by rfl, ?_⟩) ?_
                rotate_left
                · intro w hSw
                  clear hSw
                  go_simp
                  all_goals with_reducible rfl
                simp only [Act.put, List.setIfInBounds_toArray, List.set_cons_zero, List.set_cons_succ]
                refine wpAnyD_takeW (i := 12) (oi := { dst := some 191, op := Op.move (Operand.tmp 190), type := 4, pos := "law.go:142", after := #[{ on := 11, ground := Ground.data }, { on := 9, ground := Ground.chain }], guard := none }) (v := ?_) rfl (by kernel_rfl) (by kernel_rfl) (by kernel_rfl) (fun _ _ _ h => h) (Or.inl ⟨by rfl, ?_⟩) ?_
                rotate_left
                · intro w hSw
                  clear hSw
                  go_simp
                  all_goals with_reducible rfl
                simp only [Act.put, List.setIfInBounds_toArray, List.set_cons_zero, List.set_cons_succ]
                have H9 := hide (H6.out.below HB9.out)
                have HCP := hide (H9.out.copy (by have := HK6.out; omega))
                refine wpAnyD_takeW (i := 13) (oi := { dst := some 192, op := Op.move (Operand.tmp 7), type := 25, pos := "law.go:142", after := #[{ on := 12, ground := Ground.guard }], guard := some (12, true) }) (v := ?_) rfl (by kernel_rfl) (by kernel_rfl) (by kernel_rfl) (fun _ _ _ h => h) (Or.inl ⟨by rfl, ?_⟩) ?_
                rotate_left
                · intro w hSw
                  clear hSw
                  go_simp
                  all_goals with_reducible rfl
                simp only [Act.put, List.setIfInBounds_toArray, List.set_cons_zero, List.set_cons_succ]
                refine wpAnyD_takeW (i := 16) (oi := { dst := some 195, op := Op.move (Operand.tmp 8), type := 48, pos := "law.go:142", after := #[{ on := 12, ground := Ground.guard }], guard := some (12, true) }) (v := ?_) rfl (by kernel_rfl) (by kernel_rfl) (by kernel_rfl) (fun _ _ _ h => h) (Or.inl ⟨by rfl, ?_⟩) ?_
                rotate_left
                · intro w hSw
                  clear hSw
                  go_simp
                  all_goals with_reducible rfl
                simp only [Act.put, List.setIfInBounds_toArray, List.set_cons_zero, List.set_cons_succ]
                refine wpAnyD_one (i := 14) (o := { dst := some 193, op := Op.call { callee := Callee.value (Operand.func 34), args := #[Operand.tmp 192], argTypes := #[25] }, type := 25, pos := "law.go:142", after := #[{ on := 13, ground := Ground.data }, { on := 12, ground := Ground.chain }, { on := 12, ground := Ground.guard }], guard := some (12, true) }) (by kernel_rfl) rfl (fun K hK => ?_)
                go_simp
                (with_reducible refine Calls.mono (HCP.out) ?_)
                rintro r w10 ⟨ob, X10, rfl, h10, hls⟩
                have H10 := hide h10
                have HLS := hide hls
                clear h10 hls
                clear hS
                refine hK _ _ (fun h => by cases h) ?_
                clear hK K
                try simp only [Act.put, List.setIfInBounds_toArray, List.set_cons_zero, List.set_cons_succ]
                refine wpAnyD_one (i := 15) (o := { dst := some 194, op := Op.call { callee := Callee.value (Operand.func 12), args := #[Operand.tmp 193], argTypes := #[25] }, type := 32, pos := "law.go:142", after := #[{ on := 14, ground := Ground.data }, { on := 14, ground := Ground.chain }, { on := 12, ground := Ground.guard }], guard := some (12, true) }) (by kernel_rfl) rfl (fun K hK => ?_)
                go_simp
                (with_reducible refine Calls.mono (HLS.out) ?_)
                rintro r w11 ⟨v11, rfl, s11, f11, b11⟩
                obtain ⟨A11, c11, rfl, _, _⟩ := Sl.form s11
                have R11 := hide (Sl.rd s11)
                have H11 := hide (H10.out.below b11)
                obtain ⟨Y11, ht11⟩ := H11.out.tz
                have HLS2 := hide (ht11.list HF.out (by have := HK6.out; omega))
                clear s11 f11 b11 ht11
                refine hK _ _ (fun h => by cases h) ?_
                clear hK K
                try simp only [Act.put, List.setIfInBounds_toArray, List.set_cons_zero, List.set_cons_succ]
                refine wpAnyD_one (i := 17) (o := { dst := some 196, op := Op.call { callee := Callee.value (Operand.func 24), args := #[Operand.tmp 195], argTypes := #[48] }, type := 32, pos := "law.go:142", after := #[{ on := 16, ground := Ground.data }, { on := 15, ground := Ground.chain }, { on := 12, ground := Ground.guard }], guard := some (12, true) }) (by kernel_rfl) rfl (fun K hK => ?_)
                go_simp
                (with_reducible refine Calls.mono (HLS2.out) ?_)
                rintro r w12 ⟨v12, rfl, s12, f12, b12⟩
                obtain ⟨A12, c12, rfl, _, _⟩ := Sl.form s12
                have H12 := hide (H11.out.below b12)
                have HSM := hide (same_ints w12 s.order s.order.length s.order.length A11 A12 c11 c12 rfl rfl (R11.out.belowN b12) (Sl.rd s12) (by have h9 := HF.out.len; rw [← HF.out.ok.len] at h9; have := HK6.out; omega))
                clear s12 f12 b12
                refine hK _ _ (fun h => by cases h) ?_
                clear hK K
                try simp only [Act.put, List.setIfInBounds_toArray, List.set_cons_zero, List.set_cons_succ]
                refine wpAnyD_one (i := 18) (o := { dst := some 197, op := Op.call { callee := Callee.value (Operand.func 19), args := #[Operand.tmp 194, Operand.tmp 196], argTypes := #[32, 32] }, type := 4, pos := "law.go:142", after := #[{ on := 15, ground := Ground.data }, { on := 17, ground := Ground.data }, { on := 17, ground := Ground.chain }, { on := 12, ground := Ground.guard }], guard := some (12, true) }) (by kernel_rfl) rfl (fun K hK => ?_)
                go_simp
                (with_reducible refine Calls.mono (HSM.out) ?_)
                rintro r w13 ⟨rfl, b13⟩
                have H13 := hide (H12.out.below b13)
                clear b13
                refine hK _ _ (fun h => by cases h) ?_
                clear hK K
                try simp only [Act.put, List.setIfInBounds_toArray, List.set_cons_zero, List.set_cons_succ]
                refine wpAnyD_takeW (i := 19) (oi := { dst := some 198, op := Op.pick (Operand.tmp 191) (Operand.tmp 197) (Operand.const (Value.bool false)), type := 4, pos := "law.go:142", after := #[{ on := 12, ground := Ground.data }, { on := 18, ground := Ground.data }], guard := none }) (v := ?_) rfl (by kernel_rfl) (by kernel_rfl) (by kernel_rfl) (fun _ _ _ h => h) (Or.inl ⟨by rfl, ?_⟩) ?_
                rotate_left
                · intro w hSw
                  clear hSw
                  go_simp
                  all_goals with_reducible rfl
                simp only [Act.put, List.setIfInBounds_toArray, List.set_cons_zero, List.set_cons_succ]
                refine wpAnyD_takeW (i := 20) (oi := { dst := some 6, op := Op.assign (Operand.tmp 198), type := 4, pos := "law.go:142", after := #[{ on := 19, ground := Ground.data }, { on := 18, ground := Ground.chain }, { on := 0, ground := Ground.phase }, { on := 1, ground := Ground.phase }, { on := 2, ground := Ground.phase }, { on := 3, ground := Ground.phase }, { on := 4, ground := Ground.phase }, { on := 5, ground := Ground.phase }, { on := 6, ground := Ground.phase }, { on := 7, ground := Ground.phase }, { on := 8, ground := Ground.phase }, { on := 9, ground := Ground.phase }, { on := 10, ground := Ground.phase }, { on := 11, ground := Ground.phase }, { on := 12, ground := Ground.phase }, { on := 13, ground := Ground.phase }, { on := 14, ground := Ground.phase }, { on := 15, ground := Ground.phase }, { on := 16, ground := Ground.phase }, { on := 17, ground := Ground.phase }, { on := 18, ground := Ground.phase }, { on := 19, ground := Ground.phase }], guard := none }) (v := ?_) rfl (by kernel_rfl) (by kernel_rfl) (by kernel_rfl) (fun _ _ _ h => h) (Or.inl ⟨by rfl, ?_⟩) ?_
                rotate_left
                · intro w hSw
                  clear hSw
                  go_simp
                  all_goals with_reducible rfl
                simp only [Act.put, List.setIfInBounds_toArray, List.set_cons_zero, List.set_cons_succ]
                refine wpAnyD_done (by kernel_rfl) ?_ _
                go_wp2_with fail
                go_ret
                exact ⟨rfl, HB0.out.trans (H13.out.bel.mono HB0.out.size)⟩
end Go.Proofs.YtnbhejbpofjamaaGreatDoor

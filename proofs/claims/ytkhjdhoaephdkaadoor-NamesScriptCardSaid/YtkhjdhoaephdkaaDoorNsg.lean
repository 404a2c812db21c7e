/- A table and the reference's table, side by side. No condition but those written. -/
import Derived.Test.YtkhjdhoaephdkaaDoorNsf
import Derived.Test.YtkhjdhoaephdkaaDoorNsr
namespace Go.Proofs.YtkhjdhoaephdkaaDoor
open Go.RowKit

/-- What both tell of a symbol. -/
structure PS where
  nm : ByteArray
  it : Bool
  has : Bool
  fk : Int
  fn : Int
  props : List (Int × Int × Int)
def Sym.ps (x : Sym) : PS := ⟨x.name, x.intd, x.fb, x.fk, x.fn, sortP x.props⟩
def RSym.ps (x : RSym) : PS := ⟨x.nm, x.it, x.has, x.fk, x.fn, x.props⟩
structure Alike (A : List Sym) (O : List RSym) : Prop where
  eq : A.map Sym.ps = O.map RSym.ps
  ok : ∀ x ∈ A, SymOk x
  two : 1 < A.length
  len : A.length ≤ 16384
section
variable {A : List Sym} {O : List RSym}
theorem Alike.length (h : Alike A O) : A.length = O.length := by simpa using congrArg List.length h.eq
theorem rget_map {α β : Type} (f : α → β) (l : List α) (n : Int) : (rget l n).map f = rget (l.map f) n := by
  unfold rget
  split <;> simp
theorem Alike.get (h : Alike A O) (n : Int) : (rget A n).map Sym.ps = (rget O n).map RSym.ps := by rw [rget_map, rget_map, h.eq]
theorem Alike.at_ (h : Alike A O) {i : Nat} {x : Sym} (hx : A[i]? = some x) : ∃ y, O[i]? = some y ∧ x.ps = y.ps := by
  have h1 : (A.map Sym.ps)[i]? = some x.ps := by rw [List.getElem?_map, hx]; rfl
  rw [h.eq, List.getElem?_map] at h1
  obtain ⟨y, hy, e⟩ := Option.map_eq_some_iff.1 h1
  exact ⟨y, hy, e.symm⟩
theorem find_alike {s : ByteArray} : ∀ {A : List Sym} {O : List RSym} (k : Nat), A.map Sym.ps = O.map RSym.ps → findFrom k A s = findOf k O s
  | [], [], _, _ => rfl
  | [], _ :: _, _, h => by simp at h
  | _ :: _, [], _, h => by simp at h
  | x :: A, y :: O, k, h => by
    simp only [List.map_cons, List.cons.injEq] at h
    have e1 : x.intd = y.it := congrArg PS.it h.1
    have e2 : x.name = y.nm := congrArg PS.nm h.1
    unfold findFrom findOf
    rw [e1, e2, find_alike (k + 1) h.2]
theorem Alike.find (h : Alike A O) (s : ByteArray) : find A s = findOf 0 O s := find_alike 0 h.eq
theorem symOk_fresh (s : ByteArray) (i : Bool) : SymOk (Sym.fresh s i) := ⟨by simp [Sym.fresh], fun y hy => by simp [Sym.fresh] at hy, by simp [Sym.fresh], fun _ => ⟨rfl, rfl⟩⟩
theorem fresh_ps (s : ByteArray) (i : Bool) : (Sym.fresh s i).ps = (RSym.fresh s i).ps := by simp [Sym.ps, RSym.ps, Sym.fresh, RSym.fresh, sortP]
theorem Alike.snoc (h : Alike A O) (s : ByteArray) (i : Bool) (hl : ¬ 16384 ≤ O.length) : Alike (A ++ [Sym.fresh s i]) (O ++ [RSym.fresh s i]) := by
  have := h.length
  refine ⟨by rw [List.map_append, List.map_append, h.eq, List.map_cons, List.map_cons, fresh_ps]; rfl, fun x hx => ?_, by have := h.two; simp; omega, by simp; omega⟩
  rcases List.mem_append.1 hx with hx | hx
  · exact h.ok x hx
  · simp at hx
    subst hx
    exact symOk_fresh s i
theorem Alike.intern (h : Alike A O) (s : ByteArray) : (internM A s).1 = (rinternM O s).1 ∧ (internM A s).2.1 = (rinternM O s).2.1 ∧ Alike (internM A s).2.2 (rinternM O s).2.2 := by
  unfold internM rinternM
  rw [h.find s, h.length]
  split
  · cases hf : findOf 0 O s with
    | some n => exact ⟨rfl, rfl, h⟩
    | none =>
      dsimp only
      by_cases hl : 16384 ≤ O.length
      · rw [if_pos hl, if_pos hl]
        exact ⟨rfl, rfl, h⟩
      · rw [if_neg hl, if_neg hl]
        exact ⟨rfl, rfl, h.snoc s true hl⟩
  · exact ⟨rfl, rfl, h⟩
theorem Alike.fresh (h : Alike A O) (s : ByteArray) : (freshM A s).1 = (rfreshM O s).1 ∧ (freshM A s).2.1 = (rfreshM O s).2.1 ∧ Alike (freshM A s).2.2 (rfreshM O s).2.2 := by
  unfold freshM rfreshM
  rw [h.length]
  split
  · by_cases hl : 16384 ≤ O.length
    · rw [if_pos hl, if_pos hl]
      exact ⟨rfl, rfl, h⟩
    · rw [if_neg hl, if_neg hl]
      exact ⟨rfl, rfl, h.snoc s false hl⟩
  · exact ⟨rfl, rfl, h⟩
theorem Alike.turn (h : Alike A O) {i : Nat} {x : Sym} {y : RSym} (hp : x.ps = y.ps) (ho : SymOk x) : Alike (A.set i x) (O.set i y) :=
  ⟨by rw [List.map_set, List.map_set, h.eq, hp], fun z hz => by
    rcases List.mem_or_eq_of_mem_set hz with hz | rfl
    · exact h.ok z hz
    · exact ho, by rw [List.length_set]; exact h.two, by rw [List.length_set]; exact h.len⟩
theorem Alike.set (h : Alike A O) (n k m : Int) (b : Bool) (hb : b = false → k = 0 ∧ m = 0) : Alike (setA A n k m b) (rsetA O n k m b) := by
  unfold setA rsetA
  rw [h.length]
  split
  · cases hx : A[n.toNat]? with
    | none =>
      have h1 : O[n.toNat]? = none := by
        rw [List.getElem?_eq_none_iff] at hx ⊢
        rw [← h.length]
        exact hx
      rw [h1]
      exact h
    | some x =>
      obtain ⟨y, hy, e⟩ := h.at_ hx
      rw [hy]
      have ho := h.ok x (List.mem_of_getElem? hx)
      refine h.turn ?_ ⟨ho.nd, ho.key, ho.len, hb⟩
      have e1 := congrArg PS.nm e
      have e2 := congrArg PS.it e
      have e3 := congrArg PS.props e
      simp only [Sym.ps, RSym.ps] at e1 e2 e3
      simp [Sym.ps, RSym.ps, withFn, RSym.withFn, e1, e2, e3]
  · exact h
theorem Alike.may (h : Alike A O) (n : Int) : mayR A.length n = mayR O.length n := by rw [h.length]
theorem pput_mem {key k m : Int} : ∀ {l : List (Int × Int × Int)} {y : Int × Int × Int}, y ∈ pput l key k m → y.1 = key ∨ y ∈ l
  | [], y, h => by simp [pput] at h; rw [h]; exact .inl rfl
  | x :: l, y, h => by
    unfold pput at h
    split at h
    · rcases List.mem_cons.1 h with h | h
      · rw [h]; exact .inl rfl
      · exact .inr (List.mem_cons_of_mem _ h)
    · rcases List.mem_cons.1 h with h | h
      · rw [h]; exact .inr (List.mem_cons_self ..)
      · rcases pput_mem h with h | h
        · exact .inl h
        · exact .inr (List.mem_cons_of_mem _ h)
theorem filter_ne_len {l : List Int} (h : l.Nodup) (c : Int) : l.length ≤ (l.filter fun x => decide (x ≠ c)).length + 1 := by
  induction l with
  | nil => simp
  | cons x l ih =>
    rw [List.nodup_cons] at h
    by_cases e : x = c
    · subst e
      rw [List.filter_cons_of_neg (by simp), List.filter_eq_self.2 (fun y hy => by
        simp only [ne_eq, decide_not, Bool.not_eq_true', decide_eq_false_iff_not]
        rintro rfl
        exact h.1 hy)]
      simp
    · rw [List.filter_cons_of_pos (by simpa using e)]
      have := ih h.2
      simp only [List.length_cons]
      omega
/-- Distinct numbers below a bound are not more than it. -/
theorem nodup_bound : ∀ {b : Nat} {l : List Int}, l.Nodup → (∀ x ∈ l, 0 ≤ x ∧ x < (b : Int)) → l.length ≤ b
  | 0, l, _, hb => by
    cases l with
    | nil => simp
    | cons x l => have := hb x (List.mem_cons_self ..); omega
  | b + 1, l, h, hb => by
    have h1 := filter_ne_len h (b : Int)
    have h2 := nodup_bound (b := b) (List.filter_sublist.nodup h) (l := l.filter fun x => decide (x ≠ (b : Int))) fun x hx => by
      obtain ⟨k1, k2⟩ := List.mem_filter.1 hx
      have := hb x k1
      simp at k2
      omega
    omega
theorem Alike.setProp (h : Alike A O) {i b : Nat} {x : Sym} {y : RSym} {v : Value} {key k m : Int} (hx : A[i]? = some x) (hy : O[i]? = some y) (hk : 0 ≤ key ∧ key < (A.length : Int)) : Alike (A.set i (withProps x b (pput x.props key k m))) (O.set i (y.withProps v (rins key k m y.props))) := by
  obtain ⟨y', hy', e⟩ := h.at_ hx
  rw [hy] at hy'
  cases hy'
  have ho := h.ok x (List.mem_of_getElem? hx)
  have hl := h.len
  have hkey : ∀ z ∈ pput x.props key k m, 0 ≤ z.1 ∧ z.1 < 16384 := fun z hz => by
    rcases pput_mem hz with hz | hz
    · omega
    · exact ho.key z hz
  have hnd := pput_nodup (key := key) (k := k) (m := m) ho.nd
  refine h.turn ?_ ⟨hnd, hkey, ?_, ho.fn⟩
  · have e1 := congrArg PS.nm e
    have e2 := congrArg PS.it e
    have e3 := congrArg PS.has e
    have e4 := congrArg PS.fk e
    have e5 := congrArg PS.fn e
    have e6 := congrArg PS.props e
    simp only [Sym.ps, RSym.ps] at e1 e2 e3 e4 e5 e6
    simp only [Sym.ps, RSym.ps, withProps, RSym.withProps, e1, e2, e3, e4, e5]
    rw [← e6, rins_sort ho.nd]
  · have := nodup_bound hnd (b := 16384) fun z hz => by
      obtain ⟨y, hy, rfl⟩ := List.mem_map.1 hz
      exact hkey y hy
    simp only [List.length_map] at this
    exact this
end
/-- Both lie in memory. -/
structure Duo (W w : World) (tb : Nat) (A : List Sym) (ob : Nat) (O : List RSym) (R : Heap) : Prop where
  both : ∃ F lv, TableIs w tb A F ∧ (∀ k, F k → W.heap.size ≤ k) ∧ RAt W w ob lv O R ∧ ∀ k ∈ Heap.blocks (rTab ob lv O ++ R), ¬ F k
section
variable {W w w' : World} {tb ob : Nat} {A A' : List Sym} {O : List RSym} {R : Heap} {lv : Value}
theorem Own.apart {H : Heap} {F : Nat → Prop} (h : Own W w H) (ho : Only F w w') (hd : ∀ k ∈ Heap.blocks H, ¬ F k) (hw : ∀ k, F k → W.heap.size ≤ k) : Own W w' H :=
  ⟨h.bel.trans (ho.below h.bel.size hw), h.nod, fun x hx => ⟨(h.all x hx).1.same (ho.block _ (h.all x hx).1.lt (hd _ (List.mem_map.2 ⟨x, hx, rfl⟩))), (h.all x hx).2⟩⟩
theorem TableIs.same {F : Nat → Prop} (h : TableIs w tb A F) (hs : ∀ k, F k → w'.heap[k]? = w.heap[k]?) : TableIs w' tb A F := by
  obtain ⟨vs, ib, h1, h2, h3, h4, h5, h6⟩ := h.holds
  refine ⟨⟨vs, ib, h1.same (hs _ h.self), h2.same fun g hg => hs g (h5 g hg), h3.same (hs _ h4), h4, h5, h6⟩, fun s hx => ?_, h.nodup, h.self, fun k hk => ?_⟩
  · rcases h.props s hx with hp | ⟨b, hb, hF, hm⟩
    · exact .inl hp
    · exact .inr ⟨b, hb, hF, hm.same (hs _ hF)⟩
  · have hlt := h.bound k hk
    have e := hs k hk
    rw [Array.getElem?_eq_getElem hlt] at e
    exact lt_of_heap e
theorem Duo.below (h : Duo W w tb A ob O R) (hb : Below w.heap.size w w') : Duo W w' tb A ob O R := by
  obtain ⟨F, lv, h1, h2, h3, h4⟩ := h.both
  exact ⟨F, lv, h1.below hb, h2, h3.below hb, h4⟩
theorem Duo.bel (h : Duo W w tb A ob O R) : Below W.heap.size W w := by
  obtain ⟨F, lv, h1, h2, h3, h4⟩ := h.both
  exact h3.own.bel
theorem Duo.rest (h : Duo W w tb A ob O R) : Own W w R := by
  obtain ⟨F, lv, h1, h2, h3, h4⟩ := h.both
  exact h3.rest
theorem Duo.sub {R' : Heap} (h : Duo W w tb A ob O R) (hs : R'.Sublist R) : Duo W w tb A ob O R' := by
  obtain ⟨F, lv, h1, h2, h3, h4⟩ := h.both
  have hs' := List.Sublist.append (List.Sublist.refl (rTab ob lv O)) hs
  exact ⟨F, lv, h1, h2, ⟨h3.own.sub hs', h3.ok, h3.okp, h3.len⟩, fun k hk => h4 k ((hs'.map _).subset hk)⟩
theorem Duo.box (h : Duo W w tb A ob O R) (t : TypeId) (cs : Array Value) : Duo W (w.alloc (.cells cs t)) tb A ob O ((w.heap.size, .cells t cs) :: R) := by
  obtain ⟨F, lv, h1, h2, h3, h4⟩ := h.both
  refine ⟨F, lv, h1.below ((Below.refl _ _).alloc (Nat.le_refl _) _), h2, h3.box t cs, fun k hk hF => ?_⟩
  rw [Heap.blocks_append, List.mem_append, Heap.blocks_cons, List.mem_cons] at hk
  rcases hk with hk | rfl | hk
  · exact h4 k (by rw [Heap.blocks_append]; exact List.mem_append_left _ hk) hF
  · exact Nat.lt_irrefl _ (h1.bound _ hF)
  · exact h4 k (by rw [Heap.blocks_append]; exact List.mem_append_right _ hk) hF
/-- A call of the table. -/
theorem duo_tab {f : FuncId} {args : Array Value} {P : Ending → Prop} {Q : List Sym → Prop} (h : Duo W w tb A ob O R) (hc : ∀ F, TableIs w tb A F → Calls Tryd.prog f args w fun e w' => P e ∧ ∃ A', Q A' ∧ Left w tb A' F w') : Calls Tryd.prog f args w fun e w' => P e ∧ ∃ A', Q A' ∧ Duo W w' tb A' ob O R := by
  obtain ⟨F, lv, h1, h2, h3, h4⟩ := h.both
  refine (hc F h1).mono ?_
  rintro e w' ⟨hp, A', hq, hl, ho⟩
  have hs := h3.own.bel.size
  refine ⟨hp, A', hq, grow F w w', lv, hl, fun k hk => ?_, ⟨h3.own.apart ho h4 h2, h3.ok, h3.okp, h3.len⟩, fun k hk hg => ?_⟩
  · rcases hk with hk | hk
    · exact h2 k hk
    · have := hk.1
      omega
  · rcases hg with hg | hg
    · exact h4 k hk hg
    · obtain ⟨x, hx, rfl⟩ := List.mem_map.1 hk
      have := (h3.own.all x hx).1.lt
      have := hg.1
      omega
/-- A call of the reference. -/
theorem duo_ref {f : FuncId} {args : Array Value} {P : Ending → Prop} {Q : List RSym → Prop} (h : Duo W w tb A ob O R) (hc : ∀ lv R', RAt W w ob lv O R' → Calls Tryd.prog f args w fun e w' => P e ∧ ∃ O', Q O' ∧ ∃ lv', RAt W w' ob lv' O' R') : Calls Tryd.prog f args w fun e w' => P e ∧ ∃ O', Q O' ∧ Duo W w' tb A ob O' R := by
  classical
  obtain ⟨F, lv, h1, h2, h3, h4⟩ := h.both
  obtain ⟨Z, hZ⟩ : ∃ Z : Heap, Z = ((List.range w.heap.size).filter (fun k => decide (F k))).map (fun k => (k, Ast.obj ((w.heap[k]?).getD (.cells #[] 0)))) := ⟨_, rfl⟩
  have hZ1 : ∀ x ∈ Z, F x.1 ∧ ∃ o, x.2 = .obj o ∧ w.heap[x.1]? = some o := fun x hx => by
    rw [hZ] at hx
    obtain ⟨k, hk, rfl⟩ := List.mem_map.1 hx
    have h6 := (List.mem_filter.1 hk).2
    have hF : F k := by simpa using h6
    exact ⟨hF, _, rfl, by rw [Array.getElem?_eq_getElem (h1.bound k hF)]; rfl⟩
  have hZ2 : ∀ k, F k → ∃ o, (k, Ast.obj o) ∈ Z ∧ w.heap[k]? = some o := fun k hk => by
    have hlt := h1.bound k hk
    refine ⟨w.heap[k], ?_, Array.getElem?_eq_getElem hlt⟩
    rw [hZ]
    exact List.mem_map.2 ⟨k, List.mem_filter.2 ⟨List.mem_range.2 hlt, by simpa using hk⟩, by rw [Array.getElem?_eq_getElem hlt]; rfl⟩
  have hZ3 : (Heap.blocks Z).Nodup := by
    have e : Heap.blocks Z = ((List.range w.heap.size).filter (fun k => decide (F k))) := by
      rw [hZ]
      unfold Heap.blocks
      rw [List.map_map]
      conv => rhs; rw [← List.map_id ((List.range w.heap.size).filter fun k => decide (F k))]
      rfl
    rw [e]
    exact List.nodup_range.filter _
  have h5 : RAt W w ob lv O (R ++ Z) := by
    refine ⟨⟨h3.own.bel, ?_, fun x hx => ?_⟩, h3.ok, h3.okp, h3.len⟩
    · rw [← List.append_assoc, Heap.blocks_append, List.nodup_append]
      refine ⟨h3.own.nod, hZ3, ?_⟩
      rintro k hk _ hz rfl
      obtain ⟨x, hx, rfl⟩ := List.mem_map.1 hz
      exact h4 _ hk (hZ1 x hx).1
    · rw [← List.append_assoc] at hx
      rcases List.mem_append.1 hx with hx | hx
      · exact h3.own.all x hx
      · obtain ⟨hF, o, ho, hh⟩ := hZ1 x hx
        refine ⟨?_, h2 _ hF⟩
        rw [ho]
        exact hh
  refine (hc lv _ h5).mono ?_
  rintro e w' ⟨hp, O', hq, lv', ht⟩
  refine ⟨hp, O', hq, F, lv', h1.same fun k hk => ?_, h2, ⟨ht.own.sub ((List.Sublist.refl _).append (List.sublist_append_left _ _)), ht.ok, ht.okp, ht.len⟩, fun k hk hF => ?_⟩
  · obtain ⟨o, ho, hh⟩ := hZ2 k hk
    rw [hh]
    exact (ht.own.all (k, .obj o) (List.mem_append_right _ (List.mem_append_right _ ho))).1
  · obtain ⟨o, ho, _⟩ := hZ2 k hF
    have hn := ht.own.nod
    rw [← List.append_assoc, Heap.blocks_append, List.nodup_append] at hn
    exact hn.2.2 k hk k (List.mem_map.2 ⟨_, ho, rfl⟩) rfl
end
end Go.Proofs.YtkhjdhoaephdkaaDoor

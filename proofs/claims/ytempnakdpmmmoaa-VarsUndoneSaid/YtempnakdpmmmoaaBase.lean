/- Plain lemmas on the memory of the model, used by every text of this seat: frames that name the blocks that may have turned, blocks known whole, maps that read as a list of pairs. No condition. -/
import Derived.WalkKit
import Derived.WalkSpells
import Derived.WalkLawsBesides
namespace Go.Proofs.Ytempnakdpmmmoaa
open Go.RowKit

/-- A fact kept from the walk; H.out gives it back. -/
theorem hide {p : Prop} (h : p) : Hid p := h

theorem ret_bool {a b : Bool} (h : a = true ↔ b = true) : Ending.returned (.bool a) = Ending.returned (.bool b) := by rw [Bool.eq_iff_iff.2 h]
theorem ret_int {k : IntKind} {a b : Int} (h : a = b) : Ending.returned (.int k a) = Ending.returned (.int k b) := by rw [h]

/-! ### Frames -/
/-- Beside the blocks in F, what was there in w is there in w'; the streams are as they were. -/
structure Only (F : Nat → Prop) (w w' : World) : Prop where
  os : w'.os = w.os
  tape : w'.tape = w.tape
  output : w'.output = w.output
  size : w.heap.size ≤ w'.heap.size
  block : ∀ k, k < w.heap.size → ¬ F k → w'.heap[k]? = w.heap[k]?

theorem Only.refl (F : Nat → Prop) (w : World) : Only F w w := ⟨rfl, rfl, rfl, Nat.le_refl _, fun _ _ _ => rfl⟩
theorem Only.trans' {F G : Nat → Prop} {a b c : World} (h : Only F a b) (k : Only G b c) (hG : ∀ i, G i → F i ∨ a.heap.size ≤ i) : Only F a c :=
  ⟨k.os.trans h.os, k.tape.trans h.tape, k.output.trans h.output, Nat.le_trans h.size k.size, fun i hi hn =>
    (k.block i (Nat.lt_of_lt_of_le hi h.size) (fun g => by rcases hG i g with f | f; exact hn f; omega)).trans (h.block i hi hn)⟩
theorem Only.trans {F : Nat → Prop} {a b c : World} (h : Only F a b) (k : Only F b c) : Only F a c := h.trans' k fun _ f => .inl f
theorem Only.mono {F G : Nat → Prop} {a b : World} (h : Only F a b) (hFG : ∀ i, i < a.heap.size → F i → G i) : Only G a b :=
  ⟨h.os, h.tape, h.output, h.size, fun i hi hn => h.block i hi fun f => hn (hFG i hi f)⟩
theorem Only.drew {F : Nat → Prop} {a w : World} (h : Only F a w) : Only F a w.drew := ⟨h.os, h.tape, h.output, h.size, h.block⟩
theorem Only.drewN {F : Nat → Prop} {a w : World} (h : Only F a w) (n : Nat) : Only F a (w.drewN n) := ⟨h.os, h.tape, h.output, h.size, h.block⟩
theorem Only.alloc {F : Nat → Prop} {a w : World} (h : Only F a w) (o : Obj) : Only F a (w.alloc o) :=
  ⟨h.os, h.tape, h.output, Nat.le_trans h.size (by simp), fun i hi hn => (Below.heap_alloc w o i (Nat.lt_of_lt_of_le hi h.size)).trans (h.block i hi hn)⟩
theorem Only.setCell {F : Nat → Prop} {a w : World} (h : Only F a w) {p : Addr} (hp : F p.block ∨ a.heap.size ≤ p.block) (u : Value) : Only F a (w.setCell p u) :=
  ⟨h.os, h.tape, h.output, by simpa using h.size, fun i hi hn => (Below.heap_setCell w p u i (by
    rintro rfl
    rcases hp with hp | hp
    · exact hn hp
    · omega)).trans (h.block i hi hn)⟩
theorem Only.grown {F : Nat → Prop} {a w w' : World} {row : Option Nat} (h : Only F a w) (hg : w.grownBy w' row) (hr : ∀ k, row = some k → F k ∨ a.heap.size ≤ k) : Only F a w' :=
  h.trans' (G := fun k => row = some k) ⟨hg.os, hg.tape, hg.output, hg.size, fun k hk hn => hg.block k hk fun e => hn e.symm⟩ hr
theorem Only.of_below {F : Nat → Prop} {w w' : World} (h : Below w.heap.size w w') : Only F w w' := ⟨h.os, h.tape, h.output, h.size, fun i hi _ => h.block i hi⟩
theorem Only.then_below {F : Nat → Prop} {a w w' : World} (h : Only F a w) (hb : Below w.heap.size w w') : Only F a w' := h.trans (.of_below hb)
theorem Only.below {F : Nat → Prop} {B : Nat} {w w' : World} (h : Only F w w') (hB : B ≤ w.heap.size) (hF : ∀ i, F i → B ≤ i) : Below B w w' :=
  ⟨h.os, h.tape, h.output, h.size, fun i hi => h.block i (by omega) fun f => by have := hF i f; omega⟩
theorem Only.below_none {w w' : World} (h : Only (fun _ => False) w w') : Below w.heap.size w w' := h.below (Nat.le_refl _) fun _ f => f.elim

/-! ### A block known whole -/
def Blk (w : World) (g : Nat) (t : TypeId) (cs : Array Value) : Prop := w.heap[g]? = some (.cells cs t (0, 0))

section
variable {w w' : World} {g : Nat} {t : TypeId} {cs : Array Value}
theorem lt_of_heap {o : Obj} (h : w.heap[g]? = some o) : g < w.heap.size := (Array.getElem?_eq_some_iff.1 h).1
theorem Blk.lt (h : Blk w g t cs) : g < w.heap.size := lt_of_heap h
theorem Blk.cell (h : Blk w g t cs) (i : Nat) : w.cell? ⟨g, i, none⟩ = cs[i]? := cell_of_row w g i cs t (0, 0) h
theorem Blk.frozen (h : Blk w g t cs) (i : Nat) : w.frozen? ⟨g, i, none⟩ = false := by
  unfold Blk at h
  simp [World.frozen?, h]
theorem Blk.new (w : World) (t : TypeId) (cs : Array Value) : Blk (w.alloc (.cells cs t)) w.heap.size t cs := heap_alloc_new w _
theorem Blk.drew (h : Blk w g t cs) : Blk w.drew g t cs := h
theorem Blk.drewN (h : Blk w g t cs) (n : Nat) : Blk (w.drewN n) g t cs := h
theorem Blk.alloc (h : Blk w g t cs) (o : Obj) : Blk (w.alloc o) g t cs := (Below.heap_alloc w o g h.lt).trans h
theorem Blk.set_ (h : Blk w g t cs) (i : Nat) (u : Value) : Blk (w.setCell ⟨g, i, none⟩ u) g t (cs.setIfInBounds i u) := by
  unfold Blk at h ⊢
  simp [World.setCell, Array.getElem?_modify, h]
theorem Blk.far (h : Blk w g t cs) {p : Addr} (hp : g ≠ p.block) (u : Value) : Blk (w.setCell p u) g t cs := (Below.heap_setCell w p u g hp).trans h
theorem Blk.below {B : Nat} (h : Blk w g t cs) (hb : Below B w w') (hg : g < B) : Blk w' g t cs := (hb.block g hg).trans h
theorem Blk.grown {row : Option Nat} (h : Blk w g t cs) (hb : w.grownBy w' row) (hg : some g ≠ row) : Blk w' g t cs := (hb.block g h.lt hg).trans h
theorem Blk.only {F : Nat → Prop} (h : Blk w g t cs) (hb : Only F w w') (hg : ¬ F g) : Blk w' g t cs := (hb.block g h.lt hg).trans h
theorem Blk.same (h : Blk w g t cs) (hb : w'.heap[g]? = w.heap[g]?) : Blk w' g t cs := hb.trans h
theorem Blk.ne_ {g' : Nat} {t' : TypeId} {cs' : Array Value} (h : Blk w g t cs) (h' : Blk w g' t' cs') (hne : t ≠ t') : g ≠ g' := by
  rintro rfl
  unfold Blk at h h'
  rw [h] at h'
  injection h' with h'
  injection h' with _ ht
  exact hne ht
end

theorem heap_set_same {w : World} {g i : Nat} {t : TypeId} {cs : Array Value} {u : Value} (h : w.heap[g]? = some (.cells cs t (0, 0))) :
    (w.setCell ⟨g, i, none⟩ u).heap[g]? = some (.cells (cs.setIfInBounds i u) t (0, 0)) := by
  simp [World.setCell, Array.getElem?_modify, h]
theorem heap_set_other {w : World} {p : Addr} {g : Nat} {u : Value} (h : g ≠ p.block) : (w.setCell p u).heap[g]? = w.heap[g]? := Below.heap_setCell w p u g h

/-! ### Maps that read as a list of pairs, in the order of their making -/
/-- A map's entries, as pairs of key and value, the oldest first. -/
structure MapIs (w : World) (b : Nat) (m : List (Value × Value)) : Prop where
  holds : ∃ es clock, w.heap[b]? = some (.map es clock) ∧ es.toList.map (fun e => (e.key, e.val)) = m ∧ (es.toList.map (·.born)).Pairwise (· < ·) ∧ ∀ e ∈ es.toList, e.born < clock

theorem MapIs.lt {w : World} {b : Nat} {m : List (Value × Value)} (h : MapIs w b m) : b < w.heap.size := by
  obtain ⟨es, clock, hb, _⟩ := h.holds
  exact lt_of_heap hb
theorem MapIs.same {w w' : World} {b : Nat} {m : List (Value × Value)} (h : MapIs w b m) (hb : w'.heap[b]? = w.heap[b]?) : MapIs w' b m := by
  obtain ⟨es, clock, h1, h2⟩ := h.holds
  exact ⟨es, clock, hb.trans h1, h2⟩
theorem MapIs.only {F : Nat → Prop} {w w' : World} {b : Nat} {m : List (Value × Value)} (h : MapIs w b m) (ho : Only F w w') (hn : ¬ F b) : MapIs w' b m := h.same (ho.block b h.lt hn)
theorem MapIs.alloc {w : World} {b : Nat} {m : List (Value × Value)} (h : MapIs w b m) (o : Obj) : MapIs (w.alloc o) b m := h.same (Below.heap_alloc w o b h.lt)
theorem MapIs.drew {w : World} {b : Nat} {m : List (Value × Value)} (h : MapIs w b m) : MapIs w.drew b m := ⟨h.holds⟩
theorem MapIs.drewN {w : World} {b : Nat} {m : List (Value × Value)} (h : MapIs w b m) (n : Nat) : MapIs (w.drewN n) b m := ⟨h.holds⟩
theorem MapIs.grown {row : Option Nat} {w w' : World} {b : Nat} {m : List (Value × Value)} (h : MapIs w b m) (hb : w.grownBy w' row) (hg : some b ≠ row) : MapIs w' b m := h.same (hb.block b h.lt hg)
theorem MapIs.setCell {w : World} {b : Nat} {m : List (Value × Value)} (h : MapIs w b m) (p : Addr) (u : Value) : MapIs (w.setCell p u) b m := by
  by_cases hp : b = p.block
  · obtain ⟨es, clock, h1, h2⟩ := h.holds
    refine ⟨es, clock, ?_, h2⟩
    subst hp
    simp [World.setCell, Array.getElem?_modify, h1]
  · exact h.same (heap_set_other hp)
theorem MapIs.new (w : World) : MapIs (w.alloc (.map #[] 0)) w.heap.size [] := ⟨#[], 0, heap_alloc_new w _, by simp, by simp, by simp⟩
theorem MapIs.ne_blk {w : World} {b g : Nat} {m : List (Value × Value)} {t : TypeId} {cs : Array Value} {fr : Nat × Nat} (h : MapIs w b m) (hg : w.heap[g]? = some (.cells cs t fr)) : b ≠ g := by
  rintro rfl
  obtain ⟨es, clock, h1, _⟩ := h.holds
  rw [h1] at hg
  cases hg

/-- A key of one of the kinds that are compared at once. -/
inductive PlainKey : TypeDesc → Value → Prop
  | int (k : IntKind) (n : Int) : PlainKey (.int k) (.int k n)
  | str (s : ByteArray) : PlainKey .string (.string s)

/-- Are two keys of one kind the same? -/
def keyEq : Value → Value → Bool
  | .int _ a, .int _ b => a == b
  | .string a, .string b => a == b
  | _, _ => false

theorem sameNow_plain {d : TypeDesc} {a b : Value} (ha : PlainKey d a) (hb : PlainKey d b) : Instr.sameNow d a b = some (keyEq a b) := by
  cases ha <;> cases hb <;> simp [Instr.sameNow, keyEq]
theorem keyEq_iff {d : TypeDesc} {a b : Value} (ha : PlainKey d a) (hb : PlainKey d b) : keyEq a b = true ↔ a = b := by
  cases ha <;> cases hb <;> simp [keyEq, MapKept.bytes_beq]
theorem PlainKey.self {d : TypeDesc} {a : Value} (ha : PlainKey d a) : keyEq a a = true := (keyEq_iff ha ha).2 rfl
theorem keyEq_int (k k' : IntKind) (a b : Int) : keyEq (.int k a) (.int k' b) = (a == b) := rfl
theorem keyEq_str (a b : ByteArray) : keyEq (.string a) (.string b) = (a == b) := rfl

/-- The value of a key. -/
def mget (m : List (Value × Value)) (k : Value) : Option Value := (m.find? fun x => keyEq k x.1).map (·.2)
/-- The pairs behind a store. -/
def mput : List (Value × Value) → Value → Value → List (Value × Value)
  | [], k, v => [(k, v)]
  | x :: m, k, v => if keyEq k x.1 then (k, v) :: m else x :: mput m k v
/-- The pairs behind a delete. -/
def mdel : List (Value × Value) → Value → List (Value × Value)
  | [], _ => []
  | x :: m, k => if keyEq k x.1 then m else x :: mdel m k

theorem findNow_plain {d : TypeDesc} {k : Value} (hk : PlainKey d k) : ∀ (es : List MapEntry) (i : Nat), (∀ e ∈ es, PlainKey d e.key) →
    Instr.findNow d k es i = some (((es.zipIdx i).find? fun x => keyEq k x.1.key).map fun x => (x.2, x.1.val))
  | [], i, _ => by simp [Instr.findNow]
  | e :: es, i, h => by
    have h1 := sameNow_plain hk (h e (by simp))
    have ih := findNow_plain hk es (i + 1) fun e' he => h e' (by simp [he])
    simp only [Instr.findNow, h1, List.zipIdx_cons, List.find?_cons]
    cases keyEq k e.key <;> simp [ih]

section
variable {P : Program} {K : TypeId} {d : TypeDesc} {w : World}
theorem run_checkKey_plain (hK : P.underlying K = some d) {k : Value} (hk : PlainKey d k) (em : Bool) (n : Nat) : (Instr.checkKey em (n + 1) K k).run P w = .ok () w := by
  cases hk <;> simp [Instr.checkKey, run_underlying hK]
theorem run_findKey_plain (hK : P.underlying K = some d) {k : Value} (hk : PlainKey d k) (es : List MapEntry) (h : ∀ e ∈ es, PlainKey d e.key) :
    (Instr.findKey K k es).run P w = .ok (((es.zipIdx 0).find? fun x => keyEq k x.1.key).map fun x => (x.2, x.1.val)) w := by
  simp [Instr.findKey, run_underlying hK, findNow_plain hk es 0 h]
theorem run_stays_plain {k : Value} (hk : PlainKey d k) (n : Nat) : Instr.sameBits n k k = true := by
  cases hk <;> cases n <;> simp [Instr.sameBits, MapKept.bytes_beq]
end

/-! ### The laws at the operations -/
/-- Are all keys of the pairs of the kind d? -/
def KeysOf (d : TypeDesc) (m : List (Value × Value)) : Prop := ∀ x ∈ m, PlainKey d x.1
theorem KeysOf.nil (d : TypeDesc) : KeysOf d [] := fun _ h => by cases h
theorem KeysOf.put {d : TypeDesc} : ∀ {m : List (Value × Value)} {k v : Value}, KeysOf d m → PlainKey d k → KeysOf d (mput m k v)
  | [], k, v, _, hk => fun x hx => by simp [mput] at hx; subst hx; exact hk
  | y :: m, k, v, h, hk => fun x hx => by
    unfold mput at hx
    split at hx
    · rcases List.mem_cons.1 hx with rfl | hx
      · exact hk
      · exact h x (by simp [hx])
    · rcases List.mem_cons.1 hx with rfl | hx
      · exact h x (by simp)
      · exact KeysOf.put (fun z hz => h z (by simp [hz])) hk x hx
theorem KeysOf.del {d : TypeDesc} : ∀ {m : List (Value × Value)} {k : Value}, KeysOf d m → KeysOf d (mdel m k)
  | [], k, _ => fun x hx => by simp [mdel] at hx
  | y :: m, k, h => fun x hx => by
    unfold mdel at hx
    split at hx
    · exact h x (by simp [hx])
    · rcases List.mem_cons.1 hx with rfl | hx
      · exact h x (by simp)
      · exact KeysOf.del (fun z hz => h z (by simp [hz])) x hx

theorem find_zip (k : Value) : ∀ (es : List MapEntry) (i : Nat), (((es.zipIdx i).find? fun x => keyEq k x.1.key).map fun x => x.1.val) = mget (es.map fun e => (e.key, e.val)) k
  | [], i => by simp [mget]
  | e :: es, i => by
    have ih := find_zip k es (i + 1)
    simp only [List.zipIdx_cons, List.find?_cons, mget, List.map_cons] at ih ⊢
    cases keyEq k e.key <;> simp [ih]

section
variable {P : Program} {T K E : TypeId} {d : TypeDesc} {w : World} {b : Nat} {m : List (Value × Value)}
theorem MapIs.keys {es : Array MapEntry} (h : es.toList.map (fun e => (e.key, e.val)) = m) (hm : KeysOf d m) : ∀ e ∈ es.toList, PlainKey d e.key := fun e he => by
  refine hm (e.key, e.val) ?_
  rw [← h]
  exact List.mem_map_of_mem he

/-- v, ok := m[k] -/
theorem MapIs.lookup (h : MapIs w b m) (hm : KeysOf d m) (hT : P.underlying T = some (.map K E)) (hK : P.underlying K = some d) {k : Value} (hk : PlainKey d k) {z : Value} (hz : (zeroValue E).run P w = .ok z w) (ok : Bool) :
    (Instr.lookup T (.map (some b)) k ok).run P w = .ok (if ok then .tuple #[(mget m k).getD z, .bool (mget m k).isSome] else (mget m k).getD z) w := by
  obtain ⟨es, clock, hb, he, _⟩ := h.holds
  have hf := run_findKey_plain (w := w) hK hk es.toList (MapIs.keys he hm)
  have hg := find_zip k es.toList 0
  rw [he] at hg
  have hc : (Instr.checkKey es.isEmpty 10000 K k).run P w = .ok () w := run_checkKey_plain hK hk _ 9999
  rw [← hg]
  unfold Instr.lookup
  cases hfind : (es.toList.zipIdx 0).find? fun x => keyEq k x.1.key with
  | none =>
    rw [hfind] at hf
    simp [run_underlying hT, MapKept.run_getObj_map hb, hc, hf, hz, Result.andThen]
  | some x =>
    rw [hfind] at hf
    simp [run_underlying hT, MapKept.run_getObj_map hb, hc, hf, Result.andThen]
theorem lookup_nil (hT : P.underlying T = some (.map K E)) (hK : P.underlying K = some d) {k : Value} (hk : PlainKey d k) {z : Value} (hz : (zeroValue E).run P w = .ok z w) (ok : Bool) :
    (Instr.lookup T (.map none) k ok).run P w = .ok (if ok then .tuple #[z, .bool false] else z) w := by
  have hc : (Instr.checkKey true 10000 K k).run P w = .ok () w := run_checkKey_plain hK hk _ 9999
  unfold Instr.lookup
  have hf : (Instr.findKey K k []).run P w = .ok none w := by simpa using run_findKey_plain (w := w) hK hk [] (by simp)
  simp [run_underlying hT, hc, hf, hz]
end
theorem put_none (k v : Value) (n : Nat) : ∀ (es : List MapEntry) (i : Nat), ((es.zipIdx i).find? fun x => keyEq k x.1.key) = none →
    (es ++ [MapEntry.mk k v n]).map (fun e : MapEntry => (e.key, e.val)) = mput (es.map fun e => (e.key, e.val)) k v
  | [], _, _ => rfl
  | e :: es, i, h => by
    simp only [List.zipIdx_cons, List.find?_cons] at h
    cases hk : keyEq k e.key with
    | true => simp [hk] at h
    | false =>
      simp only [hk] at h
      have ih := put_none k v n es (i + 1) h
      simp [mput, hk] at ih ⊢
      exact ih
theorem find_from (k : Value) : ∀ (es : List MapEntry) (i : Nat) (x : MapEntry × Nat), ((es.zipIdx i).find? fun x => keyEq k x.1.key) = some x → i ≤ x.2 ∧ es[x.2 - i]? = some x.1 ∧ keyEq k x.1.key = true
  | [], _, _, h => by simp at h
  | e :: es, i, x, h => by
    simp only [List.zipIdx_cons, List.find?_cons] at h
    cases hk : keyEq k e.key with
    | true =>
      simp only [hk] at h
      injection h with h
      subst h
      simp [hk]
    | false =>
      simp only [hk] at h
      obtain ⟨h1, h2, h3⟩ := find_from k es (i + 1) x h
      refine ⟨by omega, ?_, h3⟩
      have : x.2 - i = (x.2 - (i + 1)) + 1 := by omega
      rw [this, List.getElem?_cons_succ]
      exact h2
theorem put_some (k v : Value) : ∀ (es : List MapEntry) (i : Nat) (x : MapEntry × Nat), ((es.zipIdx i).find? fun x => keyEq k x.1.key) = some x →
    (es.modify (x.2 - i) fun e => { e with key := k, val := v }).map (fun e => (e.key, e.val)) = mput (es.map fun e => (e.key, e.val)) k v
  | [], _, _, h => by simp at h
  | e :: es, i, x, h => by
    have hx := (find_from k (e :: es) i x h).1
    simp only [List.zipIdx_cons, List.find?_cons] at h
    cases hk : keyEq k e.key with
    | true =>
      simp only [hk] at h
      injection h with h
      subst h
      simp [mput, hk]
    | false =>
      simp only [hk] at h
      have h1 := (find_from k es (i + 1) x h).1
      have ih := put_some k v es (i + 1) x h
      have : x.2 - i = (x.2 - (i + 1)) + 1 := by omega
      rw [this]
      simp [mput, hk] at ih ⊢
      exact ih
theorem del_some (k : Value) : ∀ (es : List MapEntry) (i : Nat) (x : MapEntry × Nat), ((es.zipIdx i).find? fun x => keyEq k x.1.key) = some x →
    (es.eraseIdx (x.2 - i)).map (fun e => (e.key, e.val)) = mdel (es.map fun e => (e.key, e.val)) k
  | [], _, _, h => by simp at h
  | e :: es, i, x, h => by
    have hx := (find_from k (e :: es) i x h).1
    simp only [List.zipIdx_cons, List.find?_cons] at h
    cases hk : keyEq k e.key with
    | true =>
      simp only [hk] at h
      injection h with h
      subst h
      simp [mdel, hk]
    | false =>
      simp only [hk] at h
      have h1 := (find_from k es (i + 1) x h).1
      have ih := del_some k es (i + 1) x h
      have : x.2 - i = (x.2 - (i + 1)) + 1 := by omega
      rw [this]
      simp [mdel, hk] at ih ⊢
      exact ih
theorem del_none (k : Value) : ∀ (es : List MapEntry) (i : Nat), ((es.zipIdx i).find? fun x => keyEq k x.1.key) = none → mdel (es.map fun e => (e.key, e.val)) k = es.map fun e => (e.key, e.val)
  | [], _, _ => rfl
  | e :: es, i, h => by
    simp only [List.zipIdx_cons, List.find?_cons] at h
    cases hk : keyEq k e.key with
    | true => simp [hk] at h
    | false =>
      simp only [hk] at h
      have ih := del_none k es (i + 1) h
      simp [mdel, hk] at ih ⊢
      exact ih

section
variable {P : Program} {T K E : TypeId} {d : TypeDesc} {w : World} {b : Nat} {m : List (Value × Value)}
/-- The world in which block b holds another object. -/
theorem only_setObj (w : World) (b : Nat) (o : Obj) : Only (· = b) w { w with heap := w.heap.setIfInBounds b o } :=
  ⟨rfl, rfl, rfl, by simp, fun k _ hn => by simp [show ¬ b = k from fun e => hn e.symm]⟩

/-- m[k] = v -/
theorem MapIs.update (h : MapIs w b m) (hm : KeysOf d m) (hT : P.underlying T = some (.map K E)) (hK : P.underlying K = some d) {k : Value} (hk : PlainKey d k) (v : Value) :
    ∃ w', (Instr.mapUpdate T (.map (some b)) k v).run P w = .ok () w' ∧ MapIs w' b (mput m k v) ∧ Only (· = b) w w' := by
  obtain ⟨es, clock, hb, he, hborn, hclock⟩ := h.holds
  have hf := run_findKey_plain (w := w) hK hk es.toList (MapIs.keys he hm)
  have hc : (Instr.checkKey false 10000 K k).run P w = .ok () w := run_checkKey_plain hK hk _ 9999
  have hbl := lt_of_heap hb
  cases hfind : (es.toList.zipIdx 0).find? fun x => keyEq k x.1.key with
  | none =>
    rw [hfind] at hf
    refine ⟨_, by simp [Instr.mapUpdate, run_underlying hT, MapKept.run_getObj_map hb, hc, hf, MapKept.run_setObj_map _ hb, Result.andThen]; rfl, ⟨es.push (MapEntry.mk k v clock), clock + 1, by simp [hbl], ?_, ?_, ?_⟩, only_setObj _ _ _⟩
    · rw [← he, ← put_none k v clock es.toList 0 hfind]
      simp
    · simp only [Array.toList_push, List.map_append, List.map_cons, List.map_nil, List.pairwise_append]
      refine ⟨hborn, by simp, fun a ha c hc => ?_⟩
      obtain ⟨e, he, rfl⟩ := List.mem_map.1 ha
      simp at hc
      subst hc
      exact hclock e he
    · intro e hmem
      rcases Array.mem_push.1 (Array.mem_toList_iff.1 hmem) with h1 | rfl
      · exact Nat.lt_succ_of_lt (hclock e (Array.mem_toList_iff.2 h1))
      · exact Nat.lt_succ_self _
  | some x =>
    rw [hfind] at hf
    obtain ⟨-, hx, hkx⟩ := find_from k es.toList 0 x hfind
    have hkey : x.1.key = k := ((keyEq_iff hk (MapIs.keys he hm _ (List.mem_of_getElem? hx))).1 hkx).symm
    have hx' : es[x.2]? = some x.1 := by simpa using hx
    have hst : (Instr.keyThatStays k k).run P w = .ok k w := by simp [Instr.keyThatStays, run_stays_plain hk]
    have hmod : (es.modify x.2 fun e => { e with key := k, val := v }).toList = es.toList.modify x.2 fun e => { e with key := k, val := v } := by simp
    refine ⟨_, by simp [Instr.mapUpdate, run_underlying hT, MapKept.run_getObj_map hb, hc, hf, hx', hkey, hst, MapKept.run_setObj_map _ hb, Result.andThen]; rfl, ⟨es.modify x.2 fun e => { e with key := k, val := v }, clock, by simp [hbl], ?_, ?_, ?_⟩, only_setObj _ _ _⟩
    · rw [← he, ← put_some k v es.toList 0 x hfind, hmod]
      rfl
    · have : (es.modify x.2 fun e => { e with key := k, val := v }).toList.map (·.born) = es.toList.map (·.born) := by
        rw [hmod]
        apply List.ext_getElem?
        intro i
        simp only [List.getElem?_map, List.getElem?_modify]
        by_cases hi : x.2 = i <;> simp [hi, Option.map_map, Function.comp_def]
      rw [this]
      exact hborn
    · intro e hmem
      rw [hmod] at hmem
      obtain ⟨i, hi⟩ := List.mem_iff_getElem?.1 hmem
      rw [List.getElem?_modify] at hi
      cases hei : es.toList[i]? with
      | none => rw [hei] at hi; cases hi
      | some e' =>
        rw [hei] at hi
        have hb' := hclock e' (List.mem_of_getElem? hei)
        by_cases hxi : x.2 = i <;> simp [hxi] at hi <;> (subst hi; exact hb')

/-- delete(m, k) -/
theorem MapIs.delete (h : MapIs w b m) (hm : KeysOf d m) (hT : P.underlying T = some (.map K E)) (hK : P.underlying K = some d) {k : Value} (hk : PlainKey d k) (U ty : TypeId) :
    ∃ w', (Builtin.delete_ #[T, U] ty #[.map (some b), k]).run P w = .ok (.tuple #[]) w' ∧ MapIs w' b (mdel m k) ∧ Only (· = b) w w' := by
  obtain ⟨es, clock, hb, he, hborn, hclock⟩ := h.holds
  have hf := run_findKey_plain (w := w) hK hk es.toList (MapIs.keys he hm)
  have hc : (Instr.checkKey es.isEmpty 10000 K k).run P w = .ok () w := run_checkKey_plain hK hk _ 9999
  have hbl := lt_of_heap hb
  cases hfind : (es.toList.zipIdx 0).find? fun x => keyEq k x.1.key with
  | none =>
    rw [hfind] at hf
    refine ⟨_, by simp [Builtin.delete_, run_underlying hT, MapKept.run_getObj_map hb, hc, hf, MapKept.run_setObj_map _ hb, Result.andThen]; rfl, ⟨es, clock, by simp [hbl], ?_, hborn, hclock⟩, only_setObj _ _ _⟩
    rw [← he, del_none k es.toList 0 hfind]
  | some x =>
    rw [hfind] at hf
    have hdel : (es.eraseIdxIfInBounds x.2).toList = es.toList.eraseIdx x.2 := by simp
    refine ⟨_, by simp [Builtin.delete_, run_underlying hT, MapKept.run_getObj_map hb, hc, hf, MapKept.run_setObj_map _ hb, Result.andThen]; rfl, ⟨es.eraseIdxIfInBounds x.2, clock, by simp [hbl], ?_, ?_, ?_⟩, only_setObj _ _ _⟩
    · rw [← he, ← del_some k es.toList 0 x hfind, hdel]
      rfl
    · rw [hdel]
      exact hborn.sublist ((List.eraseIdx_sublist _ _).map _)
    · intro e hmem
      rw [hdel] at hmem
      exact hclock e ((List.eraseIdx_sublist _ _).subset hmem)

/-- len(m) -/
theorem MapIs.len (h : MapIs w b m) (hT : P.underlying T = some (.map K E)) (ty : TypeId) : (Builtin.len_ #[T] ty #[.map (some b)]).run P w = .ok (.int .i64 m.length) w := by
  obtain ⟨es, clock, hb, he, _⟩ := h.holds
  have : es.size = m.length := by rw [← he]; simp
  simp [Builtin.len_, run_underlying hT, MapKept.run_getObj_map hb, Result.andThen, goInt, this]
end

/-! ### The same as arms of the walk -/
section
variable {P : Program} {w : World} {ops : Array Oper} {rest : List Oper} {o : Oper} {a : Act} {Q : Exit → Act → World → Prop} {T K E : TypeId} {d : TypeDesc} {b : Nat} {m : List (Value × Value)}
theorem wpList_lookup_is (hg : o.guard = none) (x k : Operand) (ok : Bool) (hop : o.op = Op.lookup T x k ok) (hT : P.underlying T = some (.map K E)) (hK : P.underlying K = some d) (z : Value) (hz : (zeroValue E).run P w = .ok z w)
    (hx : a.eval x = .map (some b)) (h : MapIs w b m) (hm : KeysOf d m) (kv : Value) (hkv : a.eval k = kv) (hk : PlainKey d kv) (r : Option Value) (hget : mget m kv = r)
    (hK' : wpList P ops Q rest (a.put o.dst (if ok then .tuple #[r.getD z, .bool r.isSome] else r.getD z)) w) : wpList P ops Q (o :: rest) a w := by
  refine wpList_plain hg fun K2 hK2 => ?_
  subst hget
  have hr := h.lookup hm hT hK hk hz ok
  subst hkv
  unfold Oper.wp
  simp only [execOp, hop, hx, Sem.run_bind, hr]
  exact hK2 _ _ hK'
theorem wpList_lookup_nilmap (hg : o.guard = none) (x k : Operand) (ok : Bool) (hop : o.op = Op.lookup T x k ok) (hT : P.underlying T = some (.map K E)) (hK : P.underlying K = some d) (z : Value) (hz : (zeroValue E).run P w = .ok z w)
    (hx : a.eval x = .map none) (kv : Value) (hkv : a.eval k = kv) (hk : PlainKey d kv)
    (hK' : wpList P ops Q rest (a.put o.dst (if ok then .tuple #[z, .bool false] else z)) w) : wpList P ops Q (o :: rest) a w := by
  refine wpList_plain hg fun K2 hK2 => ?_
  have hr := lookup_nil hT hK hk hz ok
  subst hkv
  unfold Oper.wp
  simp only [execOp, hop, hx, Sem.run_bind, hr]
  exact hK2 _ _ hK'
theorem wpList_update_is (hg : o.guard = none) (x k v : Operand) (hop : o.op = Op.mapUpdate T x k v) (hT : P.underlying T = some (.map K E)) (hK : P.underlying K = some d)
    (hx : a.eval x = .map (some b)) (h : MapIs w b m) (hm : KeysOf d m) (kv : Value) (hkv : a.eval k = kv) (hk : PlainKey d kv) (vv : Value) (hvv : a.eval v = vv)
    (hK' : ∀ w', MapIs w' b (mput m kv vv) → Only (· = b) w w' → wpList P ops Q rest (a.put o.dst undef) w') : wpList P ops Q (o :: rest) a w := by
  refine wpList_plain hg fun K2 hK2 => ?_
  obtain ⟨w', hr, h1, h2⟩ := h.update hm hT hK hk vv
  subst hkv
  subst hvv
  unfold Oper.wp
  simp only [execOp, hop, hx, Sem.run_bind, hr]
  exact hK2 _ _ (hK' w' h1 h2)
theorem wpList_delete_is (hg : o.guard = none) (x k : Operand) (U : TypeId) (hop : o.op = Op.call { callee := Callee.builtin Builtin.delete, args := #[x, k], argTypes := #[T, U] }) (hT : P.underlying T = some (.map K E)) (hK : P.underlying K = some d)
    (hx : a.eval x = .map (some b)) (h : MapIs w b m) (hm : KeysOf d m) (kv : Value) (hkv : a.eval k = kv) (hk : PlainKey d kv)
    (hK' : ∀ w', MapIs w' b (mdel m kv) → Only (· = b) w w' → wpList P ops Q rest (a.put o.dst (.tuple #[])) w') : wpList P ops Q (o :: rest) a w := by
  refine wpList_plain hg fun K2 hK2 => ?_
  obtain ⟨w', hr, h1, h2⟩ := h.delete hm hT hK hk U o.type
  subst hkv
  unfold Oper.wp
  simp [execOp, hop, resolve, invoke, builtin, hx, hr, Result.andThen]
  exact hK2 _ _ (hK' w' h1 h2)
theorem wpList_len_is (hg : o.guard = none) (x : Operand) (hop : o.op = Op.call { callee := Callee.builtin Builtin.len, args := #[x], argTypes := #[T] }) (hT : P.underlying T = some (.map K E))
    (hx : a.eval x = .map (some b)) (h : MapIs w b m) (hK' : wpList P ops Q rest (a.put o.dst (.int .i64 m.length)) w) : wpList P ops Q (o :: rest) a w := by
  refine wpList_plain hg fun K2 hK2 => ?_
  have hr := h.len hT o.type
  unfold Oper.wp
  simp [execOp, hop, resolve, invoke, builtin, hx, hr, Result.andThen]
  exact hK2 _ _ hK'
end
/-! ### Slices, wherever they lie in their block -/
/-- v is a slice of n elements of k cells each, which hold xs; all cells up to the capacity are there and may be written. -/
def Sl (w : World) (T : TypeId) (k : Nat) (v : Value) (n : Nat) (xs : List Value) : Prop :=
  xs.length = n * k ∧ ((v = .slice none 0 0 ∧ n = 0) ∨
    ∃ g off cap cs, v = .slice (some ⟨g, off, none⟩) n cap ∧ w.heap[g]? = some (.cells cs T (0, 0)) ∧ n ≤ cap ∧ cap ≤ maxLen ∧ off + cap * k ≤ cs.size ∧ (cs.toList.drop off).take (n * k) = xs)
/-- v is a slice of n elements of k cells each, and reads as xs. -/
def Rd (w : World) (v : Value) (k n : Nat) (xs : List Value) : Prop :=
  ∃ A c, v = .slice A n c ∧ xs.length = n * k ∧ (0 < n → ∃ b off, A = some ⟨b, off, none⟩ ∧ ∀ j u, xs[j]? = some u → w.cell? ⟨b, off + j, none⟩ = some u)

section
variable {w w' : World} {T : TypeId} {k : Nat} {v : Value} {n : Nat} {xs : List Value}
theorem Sl.nil (w : World) (T : TypeId) (k : Nat) : Sl w T k (.slice none 0 0) 0 [] := ⟨by simp, .inl ⟨rfl, rfl⟩⟩
theorem Sl.lt (h : Sl w T k v n xs) : ∀ g, v.ownBlock = some g → g < w.heap.size := by
  intro g hg
  rcases h.2 with ⟨rfl, _⟩ | ⟨g', off, cap, cs, rfl, hh, _⟩
  · simp [Value.ownBlock] at hg
  · simp [Value.ownBlock] at hg
    subst hg
    exact lt_of_heap hh
theorem Sl.same (h : Sl w T k v n xs) (hb : ∀ g, v.ownBlock = some g → w'.heap[g]? = w.heap[g]?) : Sl w' T k v n xs := by
  refine ⟨h.1, ?_⟩
  rcases h.2 with h0 | ⟨g, off, cap, cs, rfl, hh, r⟩
  · exact .inl h0
  · exact .inr ⟨g, off, cap, cs, rfl, (hb g rfl).trans hh, r⟩
theorem Sl.only {F : Nat → Prop} (h : Sl w T k v n xs) (ho : Only F w w') (hn : ∀ g, v.ownBlock = some g → ¬ F g) : Sl w' T k v n xs :=
  h.same fun g hg => ho.block g (h.lt g hg) (hn g hg)
theorem Sl.alloc (h : Sl w T k v n xs) (o : Obj) : Sl (w.alloc o) T k v n xs := h.same fun g hg => Below.heap_alloc w o g (h.lt g hg)
theorem Sl.drew (h : Sl w T k v n xs) : Sl w.drew T k v n xs := h
theorem Sl.drewN (h : Sl w T k v n xs) (q : Nat) : Sl (w.drewN q) T k v n xs := h
theorem Sl.far (h : Sl w T k v n xs) {p : Addr} (hp : v.ownBlock ≠ some p.block) (u : Value) : Sl (w.setCell p u) T k v n xs :=
  h.same fun _ hg => heap_set_other (fun e => hp (e ▸ hg))
theorem Sl.ne_blk (h : Sl w T k v n xs) {g : Nat} {t : TypeId} {cs : Array Value} {fr : Nat × Nat} (hg : w.heap[g]? = some (.cells cs t fr)) (hne : T ≠ t) : v.ownBlock ≠ some g := by
  rcases h.2 with ⟨rfl, _⟩ | ⟨g', off, cap, cs, rfl, hh, _⟩
  · simp [Value.ownBlock]
  · intro e
    simp [Value.ownBlock] at e
    subst e
    rw [hh] at hg
    cases hg
    exact hne rfl
theorem Sl.ne_map (h : Sl w T k v n xs) {g : Nat} {m : List (Value × Value)} (hg : MapIs w g m) : v.ownBlock ≠ some g := by
  rcases h.2 with ⟨rfl, _⟩ | ⟨g', off, cap, cs, rfl, hh, _⟩
  · simp [Value.ownBlock]
  · intro e
    simp [Value.ownBlock] at e
    subst e
    exact hg.ne_blk hh rfl
/-- The value's form, and each cell of it. -/
theorem Sl.form (h : Sl w T k v n xs) : ∃ A c, v = .slice A n c ∧ n ≤ c ∧ c ≤ maxLen := by
  rcases h.2 with ⟨rfl, rfl⟩ | ⟨g, off, cap, cs, rfl, _, h1, h2, _⟩
  · exact ⟨none, 0, rfl, Nat.le_refl _, by simp [maxLen]⟩
  · exact ⟨_, cap, rfl, h1, h2⟩
theorem Sl.at_ (h : Sl w T k v n xs) (hn : 0 < n) : ∃ g off c, v = .slice (some ⟨g, off, none⟩) n c ∧ n ≤ c ∧ c ≤ maxLen ∧ (∀ j u, xs[j]? = some u → w.cell? ⟨g, off + j, none⟩ = some u) ∧ (∀ j, w.frozen? ⟨g, j, none⟩ = false) ∧ g < w.heap.size := by
  rcases h.2 with ⟨_, rfl⟩ | ⟨g, off, cap, cs, rfl, hh, h1, h2, h3, h4⟩
  · omega
  · refine ⟨g, off, cap, rfl, h1, h2, fun j u hu => ?_, fun j => by simp [World.frozen?, hh], lt_of_heap hh⟩
    rw [cell_of_row w g (off + j) cs T (0, 0) hh]
    rw [← h4, List.getElem?_take] at hu
    split at hu
    · simpa [List.getElem?_drop] using hu
    · cases hu
theorem Sl.rd (h : Sl w T k v n xs) : Rd w v k n xs := by
  obtain ⟨A, c, rfl, _⟩ := h.form
  refine ⟨A, c, rfl, h.1, fun hn => ?_⟩
  obtain ⟨g, off, c', hv, _, _, hc, _⟩ := h.at_ hn
  injection hv with hA
  exact ⟨g, off, hA, hc⟩
theorem Rd.same (h : Rd w v k n xs) (hb : ∀ g, v.ownBlock = some g → w'.heap[g]? = w.heap[g]?) : Rd w' v k n xs := by
  obtain ⟨A, c, rfl, hl, hc⟩ := h
  refine ⟨A, c, rfl, hl, fun hn => ?_⟩
  obtain ⟨b, off, rfl, hx⟩ := hc hn
  exact ⟨b, off, rfl, fun j u hu => (World.cell?_of_block (hb b rfl)).trans (hx j u hu)⟩
theorem Rd.only {F : Nat → Prop} (h : Rd w v k n xs) (ho : Only F w w') (hn : ∀ g, v.ownBlock = some g → ¬ F g) : Rd w' v k n xs := by
  obtain ⟨A, c, rfl, hl, hc⟩ := h
  refine ⟨A, c, rfl, hl, fun hp => ?_⟩
  obtain ⟨b, off, rfl, hx⟩ := hc hp
  exact ⟨b, off, rfl, fun j u hu => (World.cell?_of_block (ho.block b (World.block_lt_of_cell? _ _ (hx j u hu)) (hn b rfl))).trans (hx j u hu)⟩
theorem Rd.nil (w : World) (k : Nat) : Rd w (.slice none 0 0) k 0 [] := ⟨none, 0, rfl, by simp, fun h => absurd h (by omega)⟩
/-- A store into an element. -/
theorem Sl.set {g off c : Nat} (h : Sl w T k (.slice (some ⟨g, off, none⟩) n c) n xs) (j : Nat) (hj : j < xs.length) (u : Value) : Sl (w.setCell ⟨g, off + j, none⟩ u) T k (.slice (some ⟨g, off, none⟩) n c) n (xs.set j u) := by
  refine ⟨by simpa using h.1, ?_⟩
  rcases h.2 with ⟨h0, _⟩ | ⟨g', off', cap, cs, hv, hh, h1, h2, h3, h4⟩
  · cases h0
  · injection hv with ha _ hc
    injection ha with ha
    injection ha with hg ho
    subst hg ho hc
    refine .inr ⟨g, off, c, cs.setIfInBounds (off + j) u, rfl, heap_set_same hh, h1, h2, by simpa using h3, ?_⟩
    rw [← h4]
    apply List.ext_getElem?
    intro i
    simp only [List.getElem?_take, List.getElem?_drop, Array.getElem?_toList, Array.getElem?_setIfInBounds, List.getElem?_set, List.length_take, List.length_drop, Array.length_toList]
    have hl := h.1
    by_cases hij : j = i
    · subst hij
      have : j < n * k := by omega
      have h5 : n * k ≤ c * k := Nat.mul_le_mul_right _ h1
      have h6 : off + j < cs.size := by omega
      have h7 : j < cs.size - off := by omega
      simp [this, h6]
      omega
    · simp [hij]
/-- A cut at the end: s[:m]. -/
theorem Sl.cut {A : Option Addr} {c : Nat} (h : Sl w T k (.slice A n c) n xs) {m : Nat} (hm : m ≤ n) : Sl w T k (.slice A m c) m (xs.take (m * k)) := by
  have hmk : m * k ≤ n * k := Nat.mul_le_mul_right _ hm
  refine ⟨by rw [List.length_take, h.1]; omega, ?_⟩
  rcases h.2 with ⟨h0, h00⟩ | ⟨g', off', cap, cs, hv, hh, h1, h2, h3, h4⟩
  · injection h0 with ha hb hc
    subst ha hb hc
    have : m = 0 := by omega
    subst this
    exact .inl ⟨rfl, rfl⟩
  · injection hv with ha _ hc
    subst ha hc
    refine .inr ⟨g', off', c, cs, rfl, hh, by omega, h2, h3, ?_⟩
    rw [← h4, List.take_take, Nat.min_eq_left hmk]
/-- A new row, from its cells. -/
theorem Sl.new (w : World) (T : TypeId) (k : Nat) (cs : Array Value) (n c : Nat) (hn : n ≤ c) (hc : c ≤ maxLen) (hs : c * k ≤ cs.size) :
    Sl (w.alloc (.cells cs T)) T k (.slice (some ⟨w.heap.size, 0, none⟩) n c) n (cs.toList.take (n * k)) := by
  have : n * k ≤ c * k := Nat.mul_le_mul_right _ hn
  exact ⟨by simp; omega, .inr ⟨w.heap.size, 0, c, cs, rfl, heap_alloc_new w _, hn, hc, by simpa using hs, by simp⟩⟩
end

section
variable {P : Program}
theorem run_append_nothing (w : World) (t ty e : TypeId) (i : TypeInfo) (ht : P.underlying t = some (.slice e)) (hi : P.info? e = some i) (A : Option Addr) (n c : Nat) (hn : n ≤ c) (x : Option Addr) (m c' : Nat) (hm : m = 0) :
    (Builtin.append_ #[t, t] ty #[.slice A n c, .slice x m c']).run P w = .ok (.slice A n c) w := by
  subst hm
  cases A <;> cases x <;> simp [Builtin.append_, run_underlying ht, sizeOf, typeInfo, hi, Builtin.lenOf, Builtin.firstCells, hn, storeCells, loadCells, loadCellsFrom]

/-- append(s, x...): s is a slice of ours, x reads as news. -/
theorem run_append_sl (w : World) (t ty e : TypeId) (i : TypeInfo) (z : Value) (k bytes : Nat) (ht : P.underlying t = some (.slice e)) (hi : P.info? e = some i) (hz : i.zero = some z)
    (hsize : i.size = k) (hby : i.bytes = bytes) (hzs : z.cells.size = k) (v : Value) (n : Nat) (xs : List Value) (h : Sl w e k v n xs)
    (sv : Value) (m : Nat) (news : List Value) (hr : Rd w sv k m news) (h1 : ∀ u ∈ news, u.oneCell' = true) (h63 : n + m ≤ maxLen) (hbytes : (n + m) * bytes ≤ 140737488355328) :
    ∃ v' w', (Builtin.append_ #[t, t] ty #[v, sv]).run P w = .ok v' w' ∧ Sl w' e k v' (n + m) (xs ++ news) ∧ Only (fun b => v.ownBlock = some b) w w' ∧ (v'.ownBlock = v.ownBlock ∨ v'.ownBlock = some w.heap.size) := by
  subst hsize hby
  obtain ⟨A, c, rfl, hl, hread⟩ := hr
  rcases Nat.eq_zero_or_pos m with rfl | hm
  · have hnews : news = [] := List.eq_nil_of_length_eq_zero (by simpa using hl)
    subst hnews
    obtain ⟨A', c', rfl, hnc, _⟩ := h.form
    exact ⟨_, w, run_append_nothing w t ty e i ht hi A' n c' hnc A 0 c rfl, by simpa using h, Only.refl _ _, .inl rfl⟩
  · obtain ⟨b, off, rfl, hcells⟩ := hread hm
    have hnews : ∀ j u, news[j]? = some u → w.cell? ((⟨b, off, none⟩ : Addr).add j) = some u := fun j u hu => by rw [Addr.add_lit]; exact hcells j u hu
    have hsmall : n + m ≤ 9223372036854775807 := by simp only [maxLen] at h63; omega
    have hlen : (xs ++ news).length = (n + m) * i.size := by rw [List.length_append, h.1, hl, Nat.add_mul]
    have grown : ∀ old : Nat, old < n + m → Sl (w.drew.alloc (.cells (xs.toArray ++ news.toArray ++ Builtin.zeroCells z.cells (grownCap w (n + m) old e - (n + m))) e)) e i.size
        (.slice (some ⟨w.heap.size, 0, none⟩) (n + m) (grownCap w (n + m) old e)) (n + m) (xs ++ news) := by
      intro old ho
      have hge := grownCap_ge w (n + m) old e
      have hcm := grownCap_le_maxLen w (n + m) old e h63
      refine ⟨hlen, .inr ⟨w.heap.size, 0, _, _, rfl, heap_alloc_new w.drew _, hge, hcm, ?_, ?_⟩⟩
      · simp only [Array.size_append, List.size_toArray, size_zeroCells, hzs, h.1, hl, ← Nat.add_mul, Nat.zero_add]
        apply Nat.le_of_eq
        congr 1
        omega
      · simp only [Array.toList_append, List.append_assoc, List.drop_zero]
        rw [← List.append_assoc, ← hlen]
        exact List.take_left
    have honly : ∀ (o : Obj) (F : Nat → Prop), Only F w (w.drew.alloc o) := fun o F => (Only.refl F w).drew.alloc o
    rcases h.2 with ⟨rfl, rfl⟩ | ⟨g, o, cap, cs, rfl, hg, hnc, hcm, hfit, htake⟩
    · have hx : xs = [] := List.eq_nil_of_length_eq_zero (by simpa using h.1)
      subst hx
      have hr := run_append_nil (P := P) w t ty e i z ht hi hz ⟨b, off, none⟩ m c news hl hnews (by omega) (by omega) (by have hb := hbytes; simp only [Nat.zero_add] at hb; omega)
      have hgr := grown 0 (by omega)
      simp only [Nat.zero_add, List.nil_append, Array.empty_append] at hgr ⊢
      exact ⟨_, _, hr, hgr, honly _ _, .inr rfl⟩
    · by_cases hroom : n + m ≤ cap
      · have hfit' : (o + n * i.size) + news.length ≤ cs.size := by
          have : (n + m) * i.size ≤ cap * i.size := Nat.mul_le_mul_right _ hroom
          rw [Nat.add_mul] at this
          omega
        have hf := run_firstCells_some (P := P) w i.size m ⟨b, off, none⟩ m c news hl hnews
        have hst := run_storeCells_at P g (o + n * i.size) e news 0 cs w hg (by simpa using hfit') h1
        simp only [Nat.add_zero] at hst
        refine ⟨.slice (some ⟨g, o, none⟩) (n + m) cap, w.setRow g (cs.toList.take (o + n * i.size) ++ news ++ cs.toList.drop (o + n * i.size + news.length)).toArray, ?_, ⟨hlen, .inr ⟨g, o, cap, _, rfl, setRow_heap w g cs _ e _ hg, hroom, hcm, ?_, ?_⟩⟩, ⟨rfl, rfl, rfl, by simp, fun q _ hq => setRow_other w g q _ (fun e => hq (by simp [Value.ownBlock, e]))⟩, .inl rfl⟩
        · simp [Builtin.append_, run_underlying ht, sizeOf, typeInfo, hi, Builtin.lenOf, hroom, hf, Addr.add_lit, hst]
        · simp only [List.size_toArray, List.length_append, List.length_take, List.length_drop, Array.length_toList]
          omega
        · have h0 : o ≤ cs.toList.length := by
            have : 0 ≤ cap * i.size := Nat.zero_le _
            simp only [Array.length_toList]
            omega
          have e1 : cs.toList.take (o + n * i.size) = cs.toList.take o ++ xs := by rw [List.take_add, htake]
          simp only [Array.length_toList] at h0
          rw [e1, List.append_assoc, List.append_assoc, List.drop_append_of_le_length (by simp; omega), List.drop_eq_nil_of_le (by simp; omega)]
          rw [List.nil_append, ← List.append_assoc, ← hlen]
          exact List.take_left
      · have holds : ∀ j u, xs[j]? = some u → w.cell? ((⟨g, o, none⟩ : Addr).add j) = some u := by
          intro j u hu
          rw [Addr.add_lit, cell_of_row w g (o + j) cs e (0, 0) hg]
          rw [← htake, List.getElem?_take] at hu
          split at hu
          · simpa [List.getElem?_drop] using hu
          · cases hu
        have hr := run_append_grow (P := P) w t ty e i z ht hi hz ⟨g, o, none⟩ n cap xs h.1 holds ⟨b, off, none⟩ m c news hl hnews (by omega) (by omega) (growslice_fits (by omega) hbytes)
        exact ⟨_, _, hr, grown cap (by omega), honly _ _, .inr rfl⟩

theorem wpList_append_sl {w : World} {ops : Array Oper} {rest : List Oper} {o : Oper} {a : Act} {Q : Exit → Act → World → Prop} (hgd : o.guard = none) (s x : Operand) (t : TypeId)
    (ho : o.op = .call { callee := .builtin .append, args := #[s, x], argTypes := #[t, t] })
    (e : TypeId) (i : TypeInfo) (z : Value) (k bytes : Nat) (ht : P.underlying t = some (.slice e)) (hi : P.info? e = some i) (hz : i.zero = some z)
    (hsize : i.size = k) (hby : i.bytes = bytes) (hzs : z.cells.size = k) (v : Value) (n : Nat) (xs : List Value) (hs : a.eval s = v) (h : Sl w e k v n xs)
    (sv : Value) (hx : a.eval x = sv) (m : Nat) (news : List Value) (hr : Rd w sv k m news) (h1 : ∀ u ∈ news, u.oneCell' = true) (h63 : n + m ≤ maxLen) (hbytes : (n + m) * bytes ≤ 140737488355328)
    (hK : ∀ v' w', Sl w' e k v' (n + m) (xs ++ news) → Only (fun b => v.ownBlock = some b) w w' → (v'.ownBlock = v.ownBlock ∨ v'.ownBlock = some w.heap.size) → wpList P ops Q rest (a.put o.dst v') w') : wpList P ops Q (o :: rest) a w := by
  refine wpList_plain hgd fun K hK' => ?_
  obtain ⟨v', w', hrun, h2, h3, h4⟩ := run_append_sl (P := P) w t o.type e i z k bytes ht hi hz hsize hby hzs v n xs h sv m news hr h1 h63 hbytes
  unfold Oper.wp execOp
  simp only [ho, resolve, invoke, builtin, Sem.run_bind, Sem.run_pure, Result.andThen_ok, List.map_toArray, List.map_cons, List.map_nil, hs, hx, hrun]
  exact hK' _ _ (hK v' w' h2 h3 h4)
end

end Go.Proofs.Ytempnakdpmmmoaa

/- The texts of before; what holds in the three rounds: plain laws; New at any string. No condition but those written. -/
import Derived.Test.YtghcmakhfdnimaaDoorUca
namespace Go.Proofs.YtghcmakhfdnimaaDoor
open Go.RowKit

/-- The strings of texts. -/
def strs (T : List (List Nat)) : List Value := T.map fun L => Value.string (strOf L)
theorem strs_len (T : List (List Nat)) : (strs T).length = T.length := by simp [strs]
def tRow (v : Value) (T : List (List Nat)) : Heap := rowOf 9 1 v T.length (strs T)
section
variable {W w w' : World} {lb rb : Nat} {s : Lg} {L : List Nat} {R : Heap}
theorem UAt.own (h : UAt W w lb s rb L R) : ∃ H, Own W w (R ++ H) ∧ ∀ w', Own W w' (R ++ H) → UAt W w' lb s rb L R := by
  obtain ⟨b, v, e, h, ok⟩ := h
  refine ⟨b.heap s ++ rHeap rb v L, ?_, fun w' h2 => ⟨b, v, e, h.re ?_, ok⟩⟩
  · have := h.own
    rw [← List.append_assoc] at this
    exact this.perm List.perm_append_comm
  · rw [← List.append_assoc]
    exact h2.perm List.perm_append_comm
theorem UAt.re (h : UAt W w lb s rb L R) {R' : Heap} {w' : World} (hf : ∀ H, Own W w (R ++ H) → Own W w' (R' ++ H)) : UAt W w' lb s rb L R' := by
  obtain ⟨b, v, e, h, ok⟩ := h
  have h1 : Own W w (R ++ (b.heap s ++ rHeap rb v L)) := by
    have := h.own
    rw [← List.append_assoc] at this
    exact this.perm List.perm_append_comm
  have h2 := hf _ h1
  refine ⟨b, v, e, ⟨?_, h.grp, h.okG, h.okO, h.okg⟩, ok⟩
  rw [← List.append_assoc]
  exact h2.perm List.perm_append_comm
theorem UAt.box (h : UAt W w lb s rb L R) (t : TypeId) (cs : Array Value) : UAt W (w.alloc (.cells cs t)) lb s rb L ((w.heap.size, .cells t cs) :: R) := h.re fun _ h1 => h1.newCells t cs
theorem UAt.slT {v : Value} {T : List (List Nat)} (h : UAt W w lb s rb L R) (hm : ∀ x ∈ tRow v T, x ∈ R) (ok : RowOk v T.length) : Sl w 9 1 v T.length (strs T) :=
  h.rest.slOf hm (by rw [strs_len, Nat.mul_one]) ok
/-- A text joins those of before. -/
theorem UAt.snocT {v v' : Value} {T : List (List Nat)} {M : List Nat} (h : UAt W w lb s rb L (tRow v T ++ R)) (hs : Sl w' 9 1 v' (T.length + 1) (strs T ++ [.string (strOf M)])) (ho : Only (fun b => v.ownBlock = some b) w w') (hf : v'.ownBlock = v.ownBlock ∨ v'.ownBlock = some w.heap.size) : UAt W w' lb s rb L (tRow v' (T ++ [M]) ++ R) := by
  refine h.re fun H h1 => ?_
  rw [List.append_assoc] at h1 ⊢
  have e : tRow v' (T ++ [M]) = rowOf 9 1 v' (T.length + 1) (strs T ++ [.string (strOf M)]) := by
    unfold tRow strs
    simp
  rw [e]
  exact Own.appended h1 hs ho hf
theorem usize_q (h : UAt W w lb s rb L R) (h6 : L.length ≤ 65536) : Calls Tryd.prog 15 #[.pointer (some ⟨rb, 0, none⟩)] w fun e w' => e = .returned (.int .i64 (L.length : Int)) ∧ w = w' := by
  obtain ⟨b, v, rfl, h, ok⟩ := h
  have h1 : RtAt W w rb v L (b.heap s ++ R) := ⟨h.own.perm (List.perm_append_comm_assoc _ _ _), ok⟩
  obtain ⟨A, c, rfl, hin, _⟩ := h1.open_ h6
  exact rsize_any hin
set_option maxRecDepth 100000 in
set_option maxHeartbeats 4000000 in
theorem rnew_far (s : ByteArray) (w : World) (hs : s.size ≤ 1048576) : Calls Tryd.prog 10 #[.string s] w fun e w' => (∃ p z, e = .returned (.tuple #[.pointer p, .int .i64 z])) ∧ Below w.heap.size w w' := by
  cases hv : validS s with
  | false =>
    have HL := hide (list_no w (by omega) hv)
    clear hv
    go_enter Tryd.func10, Tryd.ntmps10
    go_wp2_with fail
    refine Calls.mono HL.out ?_
    rintro r w2 ⟨rfl, hb⟩
    have HB := hide hb
    clear hb
    go_wp2
    go_ret2
    exact ⟨⟨_, _, rfl⟩, HB.out⟩
  | true =>
    have HL := hide (list_yes w (by omega) hv)
    have hm3 : (charsOf s).length ≤ 1048576 := by rw [← lenS_eq]; have := lenS_le s; omega
    obtain ⟨m, hm⟩ : ∃ m, m = (charsOf s).length := ⟨_, rfl⟩
    rw [← hm] at HL hm3
    by_cases hb : 65536 < m
    · have y1 : decide (65536 < m) = true := decide_eq_true hb
      have y2 : decide ((65536 : Int) < (m : Int)) = true := decide_eq_true (by omega)
      clear hm hv hb
      go_enter Tryd.func10, Tryd.ntmps10
      go_wp2_with fail
      refine Calls.mono HL.out ?_
      rintro r w2 ⟨B, d, rfl, -, -, hb⟩
      have HB := hide hb
      clear hb
      go_wp2
      go_ret2
      exact ⟨⟨_, _, rfl⟩, HB.out⟩
    · have y1 : decide (65536 < m) = false := decide_eq_false hb
      have y2 : decide ((65536 : Int) < (m : Int)) = false := decide_eq_false (by omega)
      clear hm hv hb
      go_enter Tryd.func10, Tryd.ntmps10
      go_wp2_with fail
      refine Calls.mono HL.out ?_
      rintro r w2 ⟨B, d, rfl, -, -, hb⟩
      have HB := hide (hb.alloc hb.size (.cells #[.slice B m d] 75))
      clear hb
      go_wp2
      go_ret2
      exact ⟨⟨_, _, rfl⟩, HB.out⟩
theorem edited_all {M L' : List Nat} {S : Nat → List Nat} {K a d : Nat} {t : ByteArray} (h : UAt W w lb s rb L R) (hf : Fine s S L K) (hK : K ≤ 400) (hT : Rules W) (hi : EdIn L M L' a d t) : Calls Tryd.prog 16 #[.pointer (some ⟨rb, 0, none⟩), .pointer (some ⟨lb, 0, none⟩), .int .i64 (a : Int), .int .i64 (d : Int), .string t] w (EdRes W lb s rb S L' (K + 2) R (¬ a < d ∧ t = ⟨#[]⟩)) := by
  have key : ∀ (K' : Nat) (B : Prop), K' ≤ K + 2 → (B ↔ ¬ a < d ∧ t = ⟨#[]⟩) → ∀ e w', EdRes W lb s rb S L' K' R B e w' → EdRes W lb s rb S L' (K + 2) R (¬ a < d ∧ t = ⟨#[]⟩) e w' := by
    rintro K' B hk hB e w' ⟨he, s', h1, h2, h3⟩
    exact ⟨he, s', h1, ⟨h2.fine.mono hk, h2.G, h2.ch⟩, h3.trans ⟨fun x => ⟨x.1, hB.1 x.2⟩, fun x => ⟨x.1, hB.2 x.2⟩⟩⟩
  by_cases hd : a < d
  · by_cases ht : t = ⟨#[]⟩
    · exact (edited_cn h hf (by omega) hT hi hd ht).mono (key _ _ (by omega) ⟨fun x => x.elim, fun x => x.1 hd⟩)
    · exact (edited_ci h hf (by omega) hT hi hd ht).mono (key _ _ (by omega) ⟨fun x => x.elim, fun x => x.1 hd⟩)
  · by_cases ht : t = ⟨#[]⟩
    · exact (edited_nn h hf (by omega) hT hi hd ht).mono (key _ _ (by omega) ⟨fun _ => ⟨hd, ht⟩, fun _ => trivial⟩)
    · exact (edited_ni h hf (by omega) hT hi hd ht).mono (key _ _ (by omega) ⟨fun x => x.elim, fun x => ht x.2⟩)
end

theorem info_str : (Tryd.prog.info? 9).map (fun i => (i.zero, i.size, i.bytes)) = some (some (.string ⟨#[]⟩), 1, 16) := by kernel_rfl
theorem str_one (M : List Nat) : ∀ u ∈ [Value.string (strOf M)], u.oneCell' = true := fun u hu => by
  simp at hu
  subst hu
  rfl

/-! ### The three rounds -/
def tAt (T : List (List Nat)) (k : Nat) : List Nat := T.getD k []
/-- Behind k edits. -/
structure Ph1 (T : List (List Nat)) (L : List Nat) (s : Lg) (k : Nat) : Prop where
  fine : Fine s (tAt T) L (2 * k)
  len : T.length = s.G.length + 1
  many : s.G.length ≤ k
  short : L.length ≤ 200 + 60 * k
  ok : ∀ c ∈ L, okc c
  all : ∀ M ∈ T, Tx M
theorem Ph1.tx {T : List (List Nat)} {L : List Nat} {s : Lg} {k : Nat} (h : Ph1 T L s k) (hk : k ≤ 20) : Tx L := ⟨by have := h.short; omega, h.ok⟩
theorem Ph1.start {L : List Nat} (h1 : L.length ≤ 200) (h2 : ∀ c ∈ L, okc c) : Ph1 [L] L (Lg.new 1048576) 0 :=
  ⟨Fine.new (tAt [L]), rfl, Nat.le_refl _, h1, h2, fun M hM => by simp at hM; subst hM; exact ⟨by omega, h2⟩⟩
theorem Ph1.edit {T : List (List Nat)} {L L' M : List Nat} {s s' : Lg} {k a d : Nat} {t : ByteArray} (h : Ph1 T L s k) (hi : EdIn L M L' a d t) (ht : t.size ≤ 60) {K : Nat} (he : Ed s s' (tAt T) L' K) (hK : K ≤ 2 * (k + 1)) : Ph1 T L' s' (k + 1) ∧ s'.G.length < k + 1 := by
  refine ⟨⟨he.fine.mono hK, by rw [he.G]; exact h.len, by rw [he.G]; have := h.many; omega, ?_, hi.l'.ok, h.all⟩, by rw [he.G]; have := h.many; omega⟩
  have h1 := h.short
  have h2 := hi.lenM
  have h3 := hi.a1
  have h4 := hi.ad
  have h5 := hi.dl
  have h6 := lenS_le t
  rw [lenS_eq] at h6
  rw [hi.e, List.length_append, List.length_append, List.length_take, List.length_drop]
  omega
theorem Ph1.edIn {T : List (List Nat)} {L : List Nat} {s : Lg} {k a d : Nat} {t : ByteArray} (h : Ph1 T L s k) (hk : k < 20) (hi : 1 ≤ a ∧ a ≤ d ∧ d ≤ L.length + 1) (hv : validS t = true) (ht : t.size ≤ 60) : ∃ M L', EdIn L M L' a d t := by
  have hl := h.tx (by omega)
  have h6 := lenS_le t
  rw [lenS_eq] at h6
  have hs := h.short
  refine ⟨_, _, hi.1, hi.2.1, hi.2.2, hl, ⟨?_, ?_⟩, rfl, rfl, hv, by omega⟩
  · rw [List.length_append, List.length_append, List.length_take, List.length_drop, List.length_append, List.length_take, List.length_drop]
    omega
  · intro c hc
    have hM : ∀ c ∈ L.take (a - 1) ++ L.drop (d - 1), okc c := fun c hc => by
      rcases List.mem_append.1 hc with hc | hc
      · exact hl.ok c (List.mem_of_mem_take hc)
      · exact hl.ok c (List.mem_of_mem_drop hc)
    rcases List.mem_append.1 hc with hc | hc
    · rcases List.mem_append.1 hc with hc | hc
      · exact hM c (List.mem_of_mem_take hc)
      · exact charsOf_okc hv c hc
    · exact hM c (List.mem_of_mem_drop hc)
theorem isEmpty_iff {l : List Chg} : (!l.isEmpty) = true ↔ l ≠ [] := by cases l <;> simp
theorem tAt_last {T : List (List Nat)} {L : List Nat} {k : Nat} (h : k = T.length) : tAt (T ++ [L]) k = L := by subst h; simp [tAt, List.getD]
theorem tAt_front {T : List (List Nat)} {L : List Nat} {k : Nat} (h : k < T.length) : tAt (T ++ [L]) k = tAt T k := by simp [tAt, List.getD, List.getElem?_append_left h]
theorem Ph1.close {T : List (List Nat)} {L : List Nat} {s : Lg} {k : Nat} (h : Ph1 T L s k) (hk : k ≤ 20) (hm : s.G.length < k) (ho : s.O ≠ []) : Ph1 (T ++ [L]) L s.close k ∧ s.close.O = [] := by
  have hl := h.len
  have hf := h.fine.turn (S' := tAt (T ++ [L])) fun j hj => tAt_front (by omega)
  obtain ⟨h1, h2, h3, h4, _⟩ := hf.close (by omega) (fun _ => tAt_last (by omega))
  have h4 := h4 ho
  refine ⟨⟨h1, ?_, ?_, h.short, h.ok, fun M hM => ?_⟩, h2⟩
  · rw [h4, List.length_append, List.length_append, hl]; rfl
  · rw [h4, List.length_append]; exact hm
  · rcases List.mem_append.1 hM with hM | hM
    · exact h.all M hM
    · simp at hM
      subst hM
      exact h.tx hk
/-- There and back and there again. -/
def pal (n : Nat) (T : List (List Nat)) (k : Nat) : List Nat := tAt T (if k ≤ n then k else if k ≤ 2 * n then 2 * n - k else k - 2 * n)
/-- The next group to be taken back is c - 1. -/
structure Un (s : Lg) (S : Nat → List Nat) (L : List Nat) (c K C : Nat) : Prop where
  fine : Fine s S L K
  O : s.O = []
  cnt : K + cntG (s.G.take c) ≤ C
  le : c ≤ s.G.length
  at_ : S c = L
theorem Un.undo {s : Lg} {S : Nat → List Nat} {L : List Nat} {c K C : Nat} (h : Un s S L (c + 1) K C) (hC : C ≤ 400) (again : Bool) (hc : s.chain0 again = (c : Int) + 1) :
    ∃ g : List Chg, s.undone again = g.reverse ∧ g.reverse ≠ [] ∧ s.undoErr again = 0 ∧ Back g.reverse (S c) L ∧ K + g.reverse.length ≤ 400 ∧ Fine (s.undo again) S L K ∧ (s.undo again).G.length = s.G.length ∧ (s.undo again).ch = (c : Int) ∧ (s.undo again).O = [] ∧
      ∀ s', Fine s' S (S c) (K + g.reverse.length) → s'.O = [] → s'.ch = (s.undo again).ch → (∃ o, s'.G = (s.undo again).G ++ [o]) → Un s' S (S c) c (K + g.reverse.length) C ∧ s'.ch = (c : Int) ∧ s'.G.length = s.G.length + 1 := by
  have hcl : c < s.G.length := h.le
  have hn := h.cnt
  obtain ⟨g, h1, h2, h3, h4, h5, h6, h7⟩ := h.fine.undo (by omega) h.O again c hc hcl
  obtain ⟨k1, k2⟩ := h.fine.hist c g h1
  rw [h.at_] at k2
  have ht := cntG_take h1
  have hgl : g.reverse.length = g.length := List.length_reverse
  refine ⟨g, h2, by simpa using k1, h3, k2, by omega, h7, by rw [h4], h6, h5, fun s' f1 f2 f3 f4 => ?_⟩
  obtain ⟨o, ho⟩ := f4
  rw [h4] at ho
  refine ⟨⟨f1, f2, ?_, by rw [ho, List.length_append]; omega, rfl⟩, f3.trans h6, by rw [ho, List.length_append]; rfl⟩
  rw [ho, List.take_append_of_le_length (by omega)]
  omega
theorem chain_first {s : Lg} (c : Nat) (h : s.G.length = c) : s.chain0 false = (c : Int) := by unfold Lg.chain0; rw [if_pos (.inl rfl), h]
theorem chain_next {s : Lg} (c : Nat) (h : s.ch = (c : Int)) : s.chain0 true = (c : Int) := by unfold Lg.chain0; rw [if_neg (by rw [h]; simp), h]
/-- The second rounds begin. -/
theorem Ph1.turn {T : List (List Nat)} {L : List Nat} {s : Lg} {k n : Nat} (h : Ph1 T L s k) (hk : k ≤ 20) (ho : s.O = []) (hn : T.length = n + 1) : Un s (pal n T) L n (2 * k) 80 ∧ s.G.length = n ∧ n ≤ 20 := by
  have hl := h.len
  have hm := h.many
  have hc := h.fine.cnt
  have hs := h.fine.open_
  rw [ho] at hs
  have hs : tAt T s.G.length = L := hs
  have hG : s.G.length = n := by omega
  refine ⟨⟨h.fine.turn fun j hj => ?_, ho, ?_, by omega, ?_⟩, hG, by omega⟩
  · unfold pal
    rw [if_pos (by omega)]
  · have : cntG (s.G.take n) ≤ cntG s.G := by rw [List.take_of_length_le (by omega)]; omega
    omega
  · unfold pal
    rw [if_pos (Nat.le_refl _), ← hG]
    exact hs
theorem pal_lo {n k : Nat} {T : List (List Nat)} (h : k ≤ n) : pal n T k = tAt T k := by unfold pal; rw [if_pos h]
theorem pal_mid {n c : Nat} {T : List (List Nat)} (h : c ≤ n) {k : Nat} (hk : k = n + (n - c)) : pal n T k = tAt T c := by
  unfold pal
  split
  · congr 1; omega
  · rw [if_pos (by omega)]
    congr 1
    omega
theorem pal_hi {n j : Nat} {T : List (List Nat)} (h : j ≤ n) {k : Nat} (hk : k = 2 * n + j) : pal n T k = tAt T j := by
  unfold pal
  split
  · congr 1; omega
  · split
    · congr 1; omega
    · congr 1; omega
/-- What a round of taking back finds, and leaves. -/
structure Rnd (s : Lg) (ag : Bool) (S : Nat → List Nat) (L L' : List Nat) (K : Nat) (r : List Chg) : Prop where
  ne : r ≠ []
  und : s.undone ag = r
  err : s.undoErr ag = 0
  back : Back r L' L
  small : K + r.length ≤ 400
  fine : Fine (s.undo ag) S L K
  O : (s.undo ag).O = []
  next : S ((s.undo ag).G.length + 1) = L'
theorem Un.round2 {s : Lg} {n c K : Nat} {T : List (List Nat)} (h : Un s (pal n T) (tAt T (c + 1)) (c + 1) K 80) (hg : s.G.length = n + (n - (c + 1))) (hc : c + 1 ≤ n) (hch : c + 1 < n → s.ch = ((c + 1 : Nat) : Int)) (ag : Bool) (hag : ag = decide (c + 1 < n)) :
    ∃ r, Rnd s ag (pal n T) (tAt T (c + 1)) (tAt T c) K r ∧ ∀ s', Fine s' (pal n T) (tAt T c) (K + r.length) → s'.O = [] → s'.ch = (s.undo ag).ch → (∃ o, s'.G = (s.undo ag).G ++ [o]) → Un s' (pal n T) (tAt T c) c (K + r.length) 80 ∧ s'.G.length = n + (n - c) ∧ (c < n → s'.ch = (c : Int)) := by
  have h0 : s.chain0 ag = (c : Int) + 1 := by
    by_cases hn : c + 1 < n
    · rw [hag, decide_eq_true hn, chain_next (c + 1) (hch hn)]
      omega
    · rw [hag, decide_eq_false hn, chain_first (c + 1) (by omega)]
      omega
  obtain ⟨g, e1, e2, e3, e4, e5, e6, e7, e8, e9, e10⟩ := h.undo (by omega) ag h0
  rw [pal_lo (show c ≤ n by omega)] at e4 e10
  refine ⟨g.reverse, ⟨e2, e1, e3, e4, e5, e6, e9, pal_mid (by omega) (by omega)⟩, fun s' f1 f2 f3 f4 => ?_⟩
  obtain ⟨k1, k2, k3⟩ := e10 s' f1 f2 f3 f4
  exact ⟨k1, by omega, fun _ => k2⟩
theorem Un.round3 {s : Lg} {n j K : Nat} {T : List (List Nat)} (h : Un s (pal n T) (tAt T j) (2 * n - j) K 160) (hg : s.G.length = 2 * n + j) (hj : j < n) (hch : 0 < j → s.ch = ((2 * n - j : Nat) : Int)) (ag : Bool) (hag : ag = decide (0 < j)) :
    ∃ r, Rnd s ag (pal n T) (tAt T j) (tAt T (j + 1)) K r ∧ ∀ s', Fine s' (pal n T) (tAt T (j + 1)) (K + r.length) → s'.O = [] → s'.ch = (s.undo ag).ch → (∃ o, s'.G = (s.undo ag).G ++ [o]) → Un s' (pal n T) (tAt T (j + 1)) (2 * n - (j + 1)) (K + r.length) 160 ∧ s'.G.length = 2 * n + (j + 1) ∧ (0 < j + 1 → s'.ch = ((2 * n - (j + 1) : Nat) : Int)) := by
  have h0 : s.chain0 ag = ((2 * n - (j + 1) : Nat) : Int) + 1 := by
    by_cases hn : 0 < j
    · rw [hag, decide_eq_true hn, chain_next (2 * n - j) (hch hn)]
      omega
    · rw [hag, decide_eq_false hn, chain_first (2 * n - j) (by omega)]
      omega
  rw [show 2 * n - j = 2 * n - (j + 1) + 1 by omega] at h
  obtain ⟨g, e1, e2, e3, e4, e5, e6, e7, e8, e9, e10⟩ := h.undo (by omega) ag h0
  rw [pal_mid (c := j + 1) (by omega) (by omega)] at e4 e10
  refine ⟨g.reverse, ⟨e2, e1, e3, e4, e5, e6, e9, pal_hi (by omega) (by omega)⟩, fun s' f1 f2 f3 f4 => ?_⟩
  obtain ⟨k1, k2, k3⟩ := e10 s' f1 f2 f3 f4
  exact ⟨k1, by omega, fun _ => k2⟩
/-- Between the rounds. -/
theorem Un.middle {s : Lg} {n K : Nat} {T : List (List Nat)} (h : Un s (pal n T) (tAt T 0) 0 K 80) (hg : s.G.length = n + (n - 0)) (hch : 0 < n → s.ch = ((0 : Nat) : Int)) (ag : Bool) (hag : ag = decide (0 < n)) :
    s.undone ag = [] ∧ s.undoErr ag = 13 ∧ Un (s.undo ag) (pal n T) (tAt T 0) (2 * n - 0) K 160 ∧ (s.undo ag).G.length = 2 * n + 0 := by
  have h0 : s.chain0 ag = 0 := by
    by_cases hn : 0 < n
    · rw [hag, decide_eq_true hn, chain_next 0 (hch hn)]
      rfl
    · rw [hag, decide_eq_false hn, chain_first 0 (by omega)]
      rfl
  have hk := h.cnt
  obtain ⟨e1, e2, e3, e4, e5⟩ := h.fine.undo_end (by omega) h.O ag h0
  have hc := e5.cnt
  refine ⟨e1, e2, ⟨e5, e4, ?_, by rw [e3]; omega, pal_mid (by omega) (by omega)⟩, by rw [e3]; omega⟩
  have h2 : cntG ((s.undo ag).G.take (2 * n - 0)) ≤ cntG (s.undo ag).G := by rw [List.take_of_length_le (by rw [e3]; omega)]; omega
  omega
theorem tAt_mem {T : List (List Nat)} {k : Nat} (h : k < T.length) : tAt T k ∈ T := by
  unfold tAt
  rw [List.getD, List.getElem?_eq_getElem h]
  exact List.getElem_mem h
theorem strs_at {T : List (List Nat)} {k : Nat} (h : k < T.length) : (strs T)[k]? = some (.string (strOf (tAt T k))) := by
  unfold strs tAt
  rw [List.getElem?_map, List.getD, List.getElem?_eq_getElem h]
  rfl
end Go.Proofs.YtghcmakhfdnimaaDoor

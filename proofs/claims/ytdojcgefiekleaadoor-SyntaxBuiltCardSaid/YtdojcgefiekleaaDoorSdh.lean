/- SyntaxBuilt: what its loops keep. No condition but those written. -/
import Derived.Test.YtdojcgefiekleaaDoorSdg
import Derived.Test.YtdojcgefiekleaaDoorSde
namespace Go.Proofs.YtdojcgefiekleaaDoor
open Go.RowKit

theorem Rd.form {w : World} {v : Value} {k n : Nat} {xs : List Value} (h : Rd w v k n xs) : ∃ A c, v = .slice A n c := by
  obtain ⟨A, c, h1, _⟩ := h
  exact ⟨A, c, h1⟩
/-- The cells of a row that came in, in every later world. -/
theorem rd_cells {w : World} {A : Option Addr} {n c : Nat} {xs : List Value} (h : Rd w (.slice A n c) 1 n xs) (hn : 0 < n) : ∃ b off, A = some ⟨b, off, none⟩ ∧ ∀ W, Below w.heap.size w W → ∀ j u, xs[j]? = some u → W.cell? ⟨b, off + j, none⟩ = some u := by
  obtain ⟨A', c', e1, _, e2⟩ := id h
  injection e1 with e3 _ e4
  obtain ⟨b, off, e5, _⟩ := e2 hn
  refine ⟨b, off, e3.trans e5, fun W hW j u hu => ?_⟩
  obtain ⟨A2, c2, f1, _, f2⟩ := h.belowN hW
  obtain ⟨b2, off2, f3, f4⟩ := f2 hn
  injection f1 with f5 _ _
  have := (e3.trans e5).symm.trans (f5.trans f3)
  injection this with this
  injection this with g1 g2 _
  subst g1 g2
  exact f4 j u hu
theorem zints_at {l : List Int} {k : Nat} {x : Int} (h : l[k]? = some x) : (zints l)[k]? = some (.int .i64 x) := by unfold zints; rw [List.getElem?_map, h]; rfl
def begB (E : List Exr) : List Int := E.map fun e => (e.1 : Int)
def endB (E : List Exr) : List Int := E.map fun e => (e.2.1 : Int)
def innB (E : List Exr) : List Int := E.map fun e => e.2.2
def opnB (S : List Lvl) : List Int := (S.map (·.1)).reverse
/-- Within the first loop of SyntaxBuilt: the text so far, the rows. -/
structure Bld (W0 w : World) (m j : Nat) (ov bv ev nv : Value) (sb : ByteArray) (O B En Nn : List Int) (g : Bool) (s : List Nat) (E : List Exr) (S : List Lvl) (top : Int) : Prop where
  rs : Rs W0 w [(ov, O), (bv, B), (ev, En), (nv, Nn)]
  txt : sb = strOf s
  asc : Asc s
  slen : s.length ≤ m
  mlen : m ≤ 1100
  good : BGood g s E S top
  Slen : S.length ≤ j
  Elen : E.length ≤ j
  ilen : j ≤ 60
  eO : O = opnB S
  eB : B = begB E
  eE : En = endB E
  eN : Nn = innB E
theorem Bld.start (W0 : World) : Bld W0 W0 (0 * 17) 0 (.slice none 0 0) (.slice none 0 0) (.slice none 0 0) (.slice none 0 0) ⟨#[]⟩ [] [] [] [] false [] [] [] (-1) :=
  ⟨⟨Below.refl _ _, fun x hx => by
    have : x = (.slice none 0 0, []) := by simpa using hx
    subst this
    exact ⟨Sl.nil _ _ _, fun k hk => by cases hk⟩, by simp [Value.ownBlock]⟩, rfl, Asc.nil, Nat.zero_le _, by omega, BGood.start, Nat.zero_le _, Nat.zero_le _, by omega, rfl, rfl, rfl, rfl⟩
section
variable {W0 w w' : World} {m j : Nat} {ov bv ev nv : Value} {sb : ByteArray} {O B En Nn : List Int} {g : Bool} {s : List Nat} {E : List Exr} {S : List Lvl} {top : Int}
theorem Bld.below (h : Bld W0 w m j ov bv ev nv sb O B En Nn g s E S top) (hb : Below w.heap.size w w') : Bld W0 w' m j ov bv ev nv sb O B En Nn g s E S top := { h with rs := h.rs.below hb }
theorem Bld.so (h : Bld W0 w m j ov bv ev nv sb O B En Nn g s E S top) : Sl w 3 1 ov O.length (zints O) := (h.rs.sl (ov, O) (by simp)).1
theorem Bld.sb_ (h : Bld W0 w m j ov bv ev nv sb O B En Nn g s E S top) : Sl w 3 1 bv B.length (zints B) := (h.rs.sl (bv, B) (by simp)).1
theorem Bld.se (h : Bld W0 w m j ov bv ev nv sb O B En Nn g s E S top) : Sl w 3 1 ev En.length (zints En) := (h.rs.sl (ev, En) (by simp)).1
theorem Bld.sn (h : Bld W0 w m j ov bv ev nv sb O B En Nn g s E S top) : Sl w 3 1 nv Nn.length (zints Nn) := (h.rs.sl (nv, Nn) (by simp)).1
theorem Bld.form_o (h : Bld W0 w m j ov bv ev nv sb O B En Nn g s E S top) : ∃ A c, ov = .slice A O.length c ∧ O.length ≤ c := by
  obtain ⟨A, c, h1, h2, _⟩ := h.so.form
  exact ⟨A, c, h1, h2⟩
theorem Bld.form_b (h : Bld W0 w m j ov bv ev nv sb O B En Nn g s E S top) : ∃ A c, bv = .slice A B.length c := h.sb_.rd.form
theorem Bld.form_e (h : Bld W0 w m j ov bv ev nv sb O B En Nn g s E S top) : ∃ A c, ev = .slice A En.length c := h.se.rd.form
theorem Bld.form_n (h : Bld W0 w m j ov bv ev nv sb O B En Nn g s E S top) : ∃ A c, nv = .slice A Nn.length c := h.sn.rd.form
theorem Bld.lenO (h : Bld W0 w m j ov bv ev nv sb O B En Nn g s E S top) : O.length ≤ 60 := by
  have := h.Slen
  have := h.ilen
  rw [h.eO]
  simp [opnB]
  omega
theorem Bld.lenB (h : Bld W0 w m j ov bv ev nv sb O B En Nn g s E S top) : B.length ≤ 60 := by
  have := h.Elen
  have := h.ilen
  rw [h.eB]
  simp [begB]
  omega
theorem Bld.lenE (h : Bld W0 w m j ov bv ev nv sb O B En Nn g s E S top) : En.length ≤ 60 := by
  have := h.Elen
  have := h.ilen
  rw [h.eE]
  simp [endB]
  omega
theorem Bld.lenN (h : Bld W0 w m j ov bv ev nv sb O B En Nn g s E S top) : Nn.length ≤ 60 := by
  have := h.Elen
  have := h.ilen
  rw [h.eN]
  simp [innB]
  omega
theorem Bld.weak (h : Bld W0 w m j ov bv ev nv sb O B En Nn g s E S top) {m' j' : Nat} (hm : m ≤ m') (hm2 : m' ≤ 1100) (hj : j ≤ j') (hj2 : j' ≤ 60) : Bld W0 w m' j' ov bv ev nv sb O B En Nn g s E S top :=
  { h with slen := Nat.le_trans h.slen hm, mlen := hm2, Slen := Nat.le_trans h.Slen hj, Elen := Nat.le_trans h.Elen hj, ilen := hj2 }
theorem Bld.gap (h : Bld W0 w m j ov bv ev nv sb O B En Nn g s E S top) {q : List Nat} (hq : q ∈ gapsL) (hm : m + 8 ≤ 1100) : Bld W0 w (m + 8) j ov bv ev nv (sb ++ strOf q) O B En Nn true (s ++ q) E S top :=
  { h with txt := by rw [h.txt, strOf_app], asc := h.asc.app (asc_gaps q hq), slen := by rw [List.length_append]; have := len_gaps q hq; have := h.slen; omega, mlen := hm, good := h.good.gap (by have := h.Slen; have := h.ilen; omega) hq }
theorem Bld.len (h : Bld W0 w m j ov bv ev nv sb O B En Nn g s E S top) : sb.size = s.length := by rw [h.txt, strA_size h.asc]
theorem Bld.piece (h : Bld W0 w m j ov bv ev nv sb O B En Nn true s E S top) {q : List Nat} (hq : q ∈ piecesL) (hm : m + 8 ≤ 1100) (hj : j + 1 ≤ 60) {bv' ev' nv' : Value} {x y z : Int} {sb2 : ByteArray} (hs2 : sb2 = sb ++ strOf q)
    (hr : Rs W0 w' [(ov, O), (bv', B ++ [x]), (ev', En ++ [y]), (nv', Nn ++ [z])]) (hx : x = (sb.size : Int)) (hy : y = (sb2.size : Int)) (hz : z = hdL S) : ∃ E2 S2 top2, Bld W0 w' (m + 8) (j + 1) ov bv' ev' nv' sb2 O (B ++ [x]) (En ++ [y]) (Nn ++ [z]) false (s ++ q) E2 S2 top2 := by
  have hl := h.len
  have ha := h.asc.app (asc_pieces q hq)
  have h2 : sb2 = strOf (s ++ q) := by rw [hs2, h.txt, strOf_app]
  have hl2 : sb2.size = (s ++ q).length := by rw [h2, strA_size ha]
  have hL := len_pieces q hq
  have c1 := h.slen
  have c2 := h.Slen
  have c3 := h.Elen
  have c4 := h.ilen
  refine ⟨_, _, _, hr, h2, ha, by rw [List.length_append]; omega, hm, h.good.piece (by omega) hq, ?_, by simp; omega, hj, ?_, ?_, ?_, ?_⟩
  · have := congrArg List.length (laid_map (S := S) (top := top) (s.length : Int))
    simp only [List.length_map] at this
    omega
  · rw [h.eO]
    unfold opnB
    rw [laid_map]
  · rw [h.eB, hx, hl]
    simp [begB]
  · rw [h.eE, hy, hl2]
    simp [endB]
  · rw [h.eN, hz]
    simp [innB]
theorem Bld.brack (h : Bld W0 w m j ov bv ev nv sb O B En Nn true s E S top) {q : Nat} (hq : q = 40 ∨ q = 91) (hm : m + 8 ≤ 1100) (hj : j + 1 ≤ 60) {ov' : Value} {x : Int} {sb2 : ByteArray} (hs2 : sb2 = sb ++ strOf [q])
    (hr : Rs W0 w' [(ov', O ++ [x]), (bv, B), (ev, En), (nv, Nn)]) (hx : x = (sb.size : Int)) : ∃ E2 S2 top2, Bld W0 w' (m + 8) (j + 1) ov' bv ev nv sb2 (O ++ [x]) B En Nn false (s ++ [q]) E2 S2 top2 := by
  have hl := h.len
  have hA : Asc [q] := fun c hc => by
    have : c = q := by simpa using hc
    omega
  have c1 := h.slen
  have c2 := h.Slen
  have c3 := h.Elen
  have c4 := h.ilen
  refine ⟨_, _, _, hr, by rw [hs2, h.txt, strOf_app], h.asc.app hA, by rw [List.length_append]; simp; omega, hm, h.good.brack (by omega) hq, by simp; omega, by omega, hj, ?_, h.eB, h.eE, h.eN⟩
  rw [h.eO, hx, hl]
  simp [opnB]
theorem Bld.shut {y : Lvl} (h : Bld W0 w m j ov bv ev nv sb O B En Nn true s E (y :: S) top) {q : Nat} (hq : q = shut (s.getD y.1.toNat 0)) (hm : m + 8 ≤ 1100) (hj : j + 1 ≤ 60) {ov' bv' ev' nv' : Value} {O' : List Int} {x z u : Int} {sb2 : ByteArray} (hs2 : sb2 = sb ++ strOf [q])
    (hr : Rs W0 w' [(ov', O'), (bv', B ++ [x]), (ev', En ++ [z]), (nv', Nn ++ [u])]) (hO : O' = O.dropLast) (hx : x = y.1) (hz : z = (sb2.size : Int)) (hu : u = hdL S) : ∃ E2 S2 top2, Bld W0 w' (m + 8) (j + 1) ov' bv' ev' nv' sb2 O' (B ++ [x]) (En ++ [z]) (Nn ++ [u]) false (s ++ [q]) E2 S2 top2 := by
  have hl := h.len
  have hb := h.good.lv.2.2.2.2.1
  have hy0 : 0 ≤ y.1 := by
    have := h.good.lv.2.2.1
    have := LvOk.hd_ge h.good.lv.2.2.2.2.2.2.2
    omega
  have hq2 : q = 41 ∨ q = 93 := by
    rw [hq]
    unfold Proofs.YtdojcgefiekleaaDoor.shut
    split <;> simp
  have hA : Asc [q] := fun c hc => by
    have : c = q := by simpa using hc
    omega
  have h2 : sb2 = strOf (s ++ [q]) := by rw [hs2, h.txt, strOf_app]
  have hl2 : sb2.size = (s ++ [q]).length := by rw [h2, strA_size (h.asc.app hA)]
  have c1 := h.slen
  have c2 := h.Slen
  have c3 := h.Elen
  have c4 := h.ilen
  simp only [List.length_cons] at c2
  have hg := h.good.shut (q := s.getD y.1.toNat 0) (by omega) rfl
  rw [← hq] at hg
  refine ⟨_, _, _, hr, h2, h.asc.app hA, by rw [List.length_append]; simp; omega, hm, hg, ?_, by simp; omega, hj, ?_, ?_, ?_, ?_⟩
  · have := congrArg List.length (laid_map (S := S) (top := top) y.1)
    simp only [List.length_map] at this
    omega
  · rw [hO, h.eO]
    unfold opnB
    rw [laid_map]
    simp
  · rw [h.eB, hx]
    simp [begB]
    omega
  · rw [h.eE, hz, hl2]
    simp [endB]
  · rw [h.eN, hu]
    simp [innB]
theorem Bld.size (h : Bld W0 w m j ov bv ev nv sb O B En Nn g s E S top) : sb.size ≤ 1100 := by
  have := h.slen
  have := h.mlen
  rw [h.txt, strA_size h.asc]
  omega
end
theorem wantOf_sexp (m v : Int) : (if (wantOf m v).2.1 = 0 then ((wantOf m v).1, 0, 0) else (0, (wantOf m v).2)) = wantOf m v := by
  unfold wantOf
  split
  · rfl
  · split <;> rfl
theorem before_step {E : List Exr} {k b' e' b : Nat} {nk v : Int} (h : E[k]? = some (b', e', nk)) : beforeOf (E.take (k + 1)) v b = if nk = v ∧ e' ≤ b then max (beforeOf (E.take k) v b) (b' : Int) else beforeOf (E.take k) v b := by
  rw [List.take_add_one, h]
  simp [beforeOf]
theorem BGood.fe_at {g : Bool} {s : List Nat} {E : List Exr} {S : List Lvl} {top : Int} (h : BGood g s E S top) {j : Nat} {e : Exr} (he : E[j]? = some e) : FE g s (E.take j) e := by
  have hj := (List.getElem?_eq_some_iff.1 he).1
  have h2 := (List.getElem?_eq_some_iff.1 he).2
  refine h.fe _ e (E.drop (j + 1)) ?_
  rw [← h2, List.getElem_cons_drop, List.take_append_drop]
theorem lv_nonneg {s : List Nat} {E : List Exr} {top : Int} : ∀ {S : List Lvl}, LvOk s E top S → ∀ y ∈ S, 0 ≤ y.1
  | [], _, _, hy => by cases hy
  | z :: S, h, y, hy => by
      have h1 := h.2.2.1
      have h2 := LvOk.hd_ge h.2.2.2.2.2.2.2
      rcases List.mem_cons.1 hy with rfl | hy
      · omega
      · exact lv_nonneg h.2.2.2.2.2.2.2 y hy
theorem sexps_in {W : World} {p : TL} {sb : ByteArray} {s : List Nat} (h : TabAt W p ⟨true, []⟩) (hT : Tabs W) (ht : sb = strOf s) (ha : Asc s) (hs : sb.size ≤ 1000000000000) {a : Nat} {n : Int} (hle : a ≤ s.length) (h1 : -1000000 ≤ n) (h2 : n ≤ 1000000) : Calls Tryd.prog 19 #[.pointer (some ⟨p.t, 0, none⟩), .string sb, .int .i64 (a : Int), .int .i64 n] W fun r w' => r = .returned (ansV (sexps T0 s n a)) ∧ Below W.heap.size W w' := by
  have h3 := sexps_any h sb hs hT (a : Int) n h1 h2
  have e : sexpsR ⟨true, []⟩ sb (a : Int) n = sexps T0 s n a := by
    unfold sexpsR
    rw [ht, strOf_chars ha]
    simp only []
    rw [if_neg (by omega), Int.toNat_natCast]
    rfl
  rw [e] at h3
  exact h3
set_option maxRecDepth 100000 in
set_option maxHeartbeats 2000000 in
theorem same_ints (W : World) (l : List Int) (n1 n2 : Nat) (A B : Option Addr) (c d : Nat) (e1 : n1 = l.length) (e2 : n2 = l.length) (ha : Rd W (.slice A n1 c) 1 n1 (zints l)) (hb : Rd W (.slice B n2 d) 1 n2 (zints l)) (hl : l.length ≤ 1000000) :
    Calls Tryd.prog 26 #[.slice A n1 c, .slice B n2 d] W fun e w' => e = .returned (.bool true) ∧ Below W.heap.size W w' := by
  obtain rfl : n1 = n2 := e1.trans e2.symm
  have HA := hide ha
  have HB := hide hb
  have HN := hide e1
  have hl2 : (n1 : Int) ≤ 1000000 := by omega
  clear ha hb e1 e2 hl
  go_enter Tryd.func26, Tryd.ntmps26
  go_wp2
  go_loopw [5] (fun i wr => ∃ k q : Nat, k ≤ n1 ∧ i = .int .i64 (k : Int) ∧ wr = W.drewN q) (fun i _ => n1 - (intOf i).toNat)
  case atStart => exact ⟨0, 0, Nat.zero_le _, rfl, rfl⟩
  case round =>
    obtain ⟨k, q, hk, rfl, rfl⟩ := hrel
    by_cases hlt : k < n1
    · have hz2 : decide ((k : Int) < (n1 : Int)) = true := by simp; omega
      have hz3 : (k : Int) < (n1 : Int) := by omega
      obtain ⟨x, hx⟩ : ∃ x, l[k]? = some x := ⟨_, List.getElem?_eq_getElem (by rw [← HN.out]; exact hlt)⟩
      obtain ⟨g1, o1, rfl, h3⟩ := rd_cells HA.out (by omega)
      obtain ⟨g2, o2, rfl, h4⟩ := rd_cells HB.out (by omega)
      have p0 := h3 W (Below.refl _ _) k _ (zints_at hx)
      have q0 := h4 W (Below.refl _ _) k _ (zints_at hx)
      have HLT := hide hlt
      clear hx h3 h4 hk hlt
      go_wp2
      go_region
      go_wp2
      go_roundw
      case rel => exact ⟨k + 1, q + 1, HLT.out, by go_num, rfl⟩
      case measure => have := HLT.out; simp [intOf]; omega
    · have hz2 : decide ((k : Int) < (n1 : Int)) = false := by simp; omega
      obtain rfl : k = n1 := by omega
      clear hk hlt
      go_wp2
      go_ret
      exact ⟨rfl, below_drewN (Below.refl _ _) q⟩
section
variable {W0 w w' : World} {m j : Nat} {ov bv ev nv : Value} {sb : ByteArray} {O B En Nn : List Int} {g : Bool} {s : List Nat} {E : List Exr} {S : List Lvl} {top : Int}
theorem Bld.opened (h : Bld W0 w m j ov bv ev nv sb O B En Nn g s E S top) {i n : Nat} {oi ol : Int} (hi : O[i]? = some oi) (hl : O[n]? = some ol) (hn : n + 1 = O.length) : ∃ a c : Nat, oi = (a : Int) ∧ a ≤ s.length ∧ fwd1 T0 s a = (0, 13, (c : Int)) ∧ ol = (c : Int) := by
  rw [h.eO] at hi hl hn
  have hm : oi ∈ opnB S := List.mem_of_getElem? hi
  unfold opnB at hm
  rw [List.mem_reverse, List.mem_map] at hm
  obtain ⟨y, hy, rfl⟩ := hm
  have h0 := lv_nonneg h.good.lv y hy
  have hmo : y.1.toNat ∈ opensOf S := List.mem_map.2 ⟨y, hy, rfl⟩
  have h1 := opens_lt h.good.lv _ hmo
  refine ⟨y.1.toNat, _, by omega, by omega, h.good.opened hmo, ?_⟩
  cases S with
  | nil => cases hy
  | cons z S =>
    have h2 := lv_nonneg h.good.lv z (List.mem_cons_self ..)
    simp only [opnB, List.map_cons, List.reverse_cons, List.length_append, List.length_reverse, List.length_map, List.length_singleton] at hl hn
    rw [List.getElem?_append_right (by simp; omega)] at hl
    have e : n - (List.map (fun x => x.1) S).reverse.length = 0 := by simp; omega
    rw [e] at hl
    simp at hl
    simp [opensOf]
    omega
theorem Bld.over {W : World} {p : TL} (h : Bld W0 w m j ov bv ev nv sb O B En Nn g s E S top) (ht : TabAt W p ⟨true, []⟩) (hT : Tabs W) : Calls Tryd.prog 25 #[.pointer (some ⟨p.t, 0, none⟩), .string sb, .int .i64 0, .int .i64 (sb.size : Int), .agg #[.slice none 0 0, .int .i64 0, .int .i64 0, .bool false, .int .i64 0, .bool false]] W fun r w' => ∃ A c, r = .returned (.tuple #[.agg #[.slice A O.length c, .int .i64 0, .int .i64 0, .bool false, .int .i64 0, .bool false], .int .i64 0]) ∧ Rd w' (.slice A O.length c) 1 O.length (zints O) ∧ Below W.heap.size W w' := by
  have hz : overZ ⟨true, []⟩ sb 0 (sb.size : Int) sta0 = (0, clean O) := by
    have hc : charsL sb.data.toList = some s := by rw [h.txt]; exact strOf_chars h.asc
    have hl := h.len
    have ho : overN ⟨true, []⟩ s s.length 0 sta0 = some (clean O) := by
      rw [h.eO]
      exact (overN_all T0 s sta0).trans h.good.ov
    unfold overZ overR
    rw [hc, hl]
    simp only []
    rw [if_neg (by omega), show ((s.length : Int) - 0).toNat = s.length by omega, show (0 : Int).toNat = 0 from rfl, ho]
    rfl
  have h3 := over_any ht sb (by have := h.size; omega) hT 0 (sb.size : Int) (.slice none 0 0) sta0 (Rd.nil _ _) (by decide) (by decide)
  rw [hz] at h3
  exact h3
end
end Go.Proofs.YtdojcgefiekleaaDoor

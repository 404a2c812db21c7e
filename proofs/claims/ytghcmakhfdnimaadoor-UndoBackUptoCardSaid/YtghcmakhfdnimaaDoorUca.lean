/- taken: changes that Undo returned are taken back. No condition but those written. -/
import Derived.Test.YtghcmakhfdnimaaDoorUbz
import Derived.Deep.RegionHeld3
namespace Go.Proofs.YtghcmakhfdnimaaDoor
open Go.RowKit

def TkRes (W : World) (lb : Nat) (s : Lg) (rb : Nat) (S : Nat → List Nat) (L : List Nat) (K : Nat) (R : Heap) (e : Ending) (w' : World) : Prop :=
  e = .returned (.bool true) ∧ ∃ s', UAt W w' lb s' rb L R ∧ Fine s' S L K ∧ s'.O = [] ∧ s'.ch = s.ch ∧ ∃ o, s'.G = s.G ++ [o]
/-- Behind k of the changes. -/
structure Tk (s : Lg) (S : Nat → List Nat) (r : List Chg) (L M : List Nat) (K k : Nat) (s' : Lg) : Prop where
  fine : Fine s' S M (K + k)
  back : Back (r.drop k) L M
  G : s'.G = s.G
  ch : s'.ch = s.ch
  ne : 0 < k → s'.O ≠ []
  tx : Tx M
theorem Tk.step {s s' s2 : Lg} {S : Nat → List Nat} {r : List Chg} {L M M1 : List Nat} {K k : Nat} {c : Chg} (h : Tk s S r L M K k s') (hc : r[k]? = some c) (hs : Step c M1 M) (hb : Back (r.drop (k + 1)) L M1) (he : Ed s' s2 S M1 (K + k + 1)) (hn : s2.O = [] ↔ s'.O = [] ∧ False) : Tk s S r L M1 K (k + 1) s2 :=
  ⟨he.fine, hb, he.G.trans h.G, he.ch.trans h.ch, fun _ e => (hn.1 e).2, hs.m⟩
theorem back_at {r : List Chg} {L M : List Nat} {k : Nat} {c : Chg} (h : Back (r.drop k) L M) (hc : r[k]? = some c) : ∃ M1, Step c M1 M ∧ Back (r.drop (k + 1)) L M1 := by
  rw [List.drop_eq_getElem_cons (List.getElem?_eq_some_iff.1 hc).1, (List.getElem?_eq_some_iff.1 hc).2] at h
  exact h
theorem ed_ins {M M1 : List Nat} {a t : Nat} (h1 : Tx M1) (h2 : Tx M) (e1 : 1 ≤ a) (e2 : a < t) (e3 : t ≤ M.length + 1) (e4 : M1 = M.take (a - 1) ++ M.drop (t - 1)) : EdIn M M1 M1 a t ⟨#[]⟩ :=
  ⟨e1, by omega, e3, h2, h1, e4, by rw [charsOf_nil, List.append_nil, List.take_append_drop], by rfl, by decide⟩
theorem ed_del {M M1 : List Nat} {a : Nat} {t : ByteArray} (h1 : Tx M1) (h2 : Tx M) (e1 : 1 ≤ a) (e3 : a ≤ M.length + 1) (hv : validS t = true) (hz : t.size ≤ 6000) (e4 : M1 = M.take (a - 1) ++ charsOf t ++ M.drop (a - 1)) : EdIn M M M1 a a t :=
  ⟨e1, by omega, e3, h2, h1, (List.take_append_drop _ _).symm, e4, hv, hz⟩
section
variable {W w w' : World} {lb rb : Nat} {s : Lg} {N L : List Nat} {R : Heap} {S : Nat → List Nat} {K : Nat} {r : List Chg} {v : Value}
set_option maxRecDepth 100000 in
set_option maxHeartbeats 16000000 in
theorem taken_any (h : UAt W w lb s rb N (chgRow v r ++ R)) (ok : RowOk v r.length) (hf : Fine s S N K) (hb : Back r L N) (hK : K + r.length ≤ 500) (hr : r ≠ []) (hS : S (s.G.length + 1) = L) (hT : Rules W) :
    Calls Tryd.prog 19 #[.pointer (some ⟨rb, 0, none⟩), .pointer (some ⟨lb, 0, none⟩), v] w (TkRes W lb s rb S L (K + r.length) (chgRow v r ++ R)) := by
  have HT := hide hT
  have hpos : 0 < r.length := List.length_pos_iff.2 hr
  obtain ⟨g, off, cp, rfl, -, -, -, -⟩ := (h.slC ok).at_ hpos
  obtain ⟨n, hn⟩ : ∃ n, n = r.length := ⟨_, rfl⟩
  have HGET := hide (fun (k : Nat) (x : Chg) (ha : r[k]? = some x) (w' : World) (sk : Lg) (M : List Nat) (hh : UAt W w' lb sk rb M (chgRow (.slice (some ⟨g, off, none⟩) r.length cp) r ++ R)) =>
    (show w'.cell? ⟨g, off + k * 9, none⟩ = some (.int .i64 x.k) ∧ w'.cell? ⟨g, off + k * 9 + 1, none⟩ = some (.int .i64 x.a) ∧ w'.cell? ⟨g, off + k * 9 + 2, none⟩ = some (.int .i64 x.t) ∧ w'.cell? ⟨g, off + k * 9 + 5, none⟩ = some (.string x.tx) from by
      obtain ⟨g', off', c', hv, hc⟩ := (hh.slC ok).rd.fld chg_len hpos
      injection hv with e1 _ _
      injection e1 with e1
      injection e1 with e1 e2
      subst e1 e2
      exact ⟨hc k x 0 _ ha rfl, hc k x 1 _ ha rfl, hc k x 2 _ ha rfl, hc k x 5 _ ha rfl⟩))
  have H0 := hide h
  have HF0 := hide (show Tk s S r L N K 0 s from ⟨hf, hb, rfl, rfl, fun e => absurd e (by omega), hb.tx_n hr⟩)
  have HS := hide hS
  have HN := hide hn
  have HOK := hide ok
  have HK := hide hK
  obtain ⟨v0, hv0⟩ : ∃ v0, v0 = Value.slice (some ⟨g, off, none⟩) r.length cp := ⟨_, rfl⟩
  have HV := hide hv0
  rw [← hv0] at HGET H0 HOK ⊢
  rw [← hn] at hv0 hpos
  subst hv0
  clear hT h hf hb hr hS ok hK hn
  go_enter Tryd.func19, Tryd.ntmps19
  go_wp2
  go_loopw [7] (fun i wr => ∃ (k : Nat) (M : List Nat) (sk : Lg), k ≤ n ∧ i = .int .i64 (k : Int) ∧ UAt W wr lb sk rb M (chgRow (.slice (some ⟨g, off, none⟩) n cp) r ++ R) ∧ Tk s S r L M K k sk) (fun i _ => n - (intOf i).toNat)
  case atStart => exact ⟨0, _, _, Nat.zero_le _, rfl, H0.out, HF0.out⟩
  case round =>
    obtain ⟨k, M, sk, hk, rfl, hu, htk⟩ := hrel
    have HU := hide hu
    have HTK := hide htk
    clear hu htk
    by_cases hlt : k < n
    · have y1 : decide (k < n) = true := by simpa using hlt
      have y2 : decide ((k : Int) < (n : Int)) = true := by simp; omega
      obtain ⟨c, hc⟩ : ∃ c, r[k]? = some c := ⟨_, List.getElem?_eq_getElem (by rw [← HN.out]; exact hlt)⟩
      obtain ⟨M1, hs1, hb1⟩ := back_at HTK.out.back hc
      have HB1 := hide hb1
      have HS1 := hide hs1
      have HC := hide hc
      have HLT := hide hlt
      have kk0 : (0 : Int) ≤ (k : Int) := by omega
      have kk1 : (k : Int) < (n : Int) := by omega
      have kw : IntKind.i64.wrap ((k : Int) + 1) = (k : Int) + 1 := IntWalk.i64_in _ (by have := HK.out; have := HN.out; omega)
      rcases hs1.how with ⟨a, t, rfl, e1, e2, e3, e4⟩ | ⟨a, t, rfl, e1, e3, ev, en, es, e4⟩
      · have HED := hide (fun w' (hh : UAt W w' lb sk rb M (chgRow (.slice (some ⟨g, off, none⟩) n cp) r ++ R)) => edited_cn hh HTK.out.fine (by have := HK.out; have := HN.out; omega) HT.out (ed_ins hs1.m hs1.n e1 e2 e3 e4) e2 rfl)
        have HG := hide (fun w' s' M' hh => (show w'.cell? ⟨g, off + k * 9 + 1, none⟩ = some (.int .i64 (a : Int)) ∧ w'.cell? ⟨g, off + k * 9 + 2, none⟩ = some (.int .i64 (t : Int)) from ⟨(HGET.out k _ hc w' s' M' hh).2.1, (HGET.out k _ hc w' s' M' hh).2.2.1⟩))
        have q0 := (HGET.out k _ hc _ _ _ HU.out).1
        rw [show (insC (a : Int) (t : Int)).k = 1 from rfl] at q0
        clear hlt hc hs1 hb1 e1 e2 e3 e4
        go_upto_region 6 with fail
        have H10 := hide (HU.out.below (Below.refl _ _).drew)
        go_region_held3 (fun w' => w'.cell? ⟨g, off + k * 9 + 1, none⟩ = some (.int .i64 (a : Int)) ∧ w'.cell? ⟨g, off + k * 9 + 2, none⟩ = some (.int .i64 (t : Int)))
          (first | exact HG.out _ _ _ H10.out | exact HG.out _ _ _ H11.out)
          ((first
            | (go_at_call 16; refine Calls.mono (HED.out _ H10.out) ?_; rintro e w11 ⟨rfl, s2, h11, hed, hne⟩; have H11 := hide h11; have HED2 := hide hed; have HNE := hide hne; clear h11 hed hne)))
        have HR := hide (HTK.out.step HC.out HS1.out HB1.out HED2.out HNE.out)
        clear HED HED2 HNE HG
        go_wp2
        go_roundw
        case rel => exact ⟨k + 1, _, _, HLT.out, by go_num, H11.out, HR.out⟩
        case measure => have := HLT.out; simp [intOf]; omega
      · have HED := hide (fun w' (hh : UAt W w' lb sk rb M (chgRow (.slice (some ⟨g, off, none⟩) n cp) r ++ R)) => edited_ni hh HTK.out.fine (by have := HK.out; have := HN.out; omega) HT.out (ed_del hs1.m hs1.n e1 e3 ev es e4) (by omega) en)
        have HG := hide (fun w' s' M' hh => (show w'.cell? ⟨g, off + k * 9 + 1, none⟩ = some (.int .i64 (a : Int)) ∧ w'.cell? ⟨g, off + k * 9 + 5, none⟩ = some (.string t) from ⟨(HGET.out k _ hc w' s' M' hh).2.1, (HGET.out k _ hc w' s' M' hh).2.2.2⟩))
        have q0 := (HGET.out k _ hc _ _ _ HU.out).1
        rw [show (remC (a : Int) t).k = 2 from rfl] at q0
        clear hlt hc hs1 hb1 e1 e3 ev en es e4
        go_upto_region 9 with fail
        have H10 := hide (HU.out.below (Below.refl _ _).drew)
        go_region_held3 (fun w' => w'.cell? ⟨g, off + k * 9 + 1, none⟩ = some (.int .i64 (a : Int)) ∧ w'.cell? ⟨g, off + k * 9 + 5, none⟩ = some (.string t))
          (first | exact HG.out _ _ _ H10.out | exact HG.out _ _ _ H11.out)
          ((first
            | (go_at_call 16; refine Calls.mono (HED.out _ H10.out) ?_; rintro e w11 ⟨rfl, s2, h11, hed, hne⟩; have H11 := hide h11; have HED2 := hide hed; have HNE := hide hne; clear h11 hed hne)))
        have HR := hide (HTK.out.step HC.out HS1.out HB1.out HED2.out HNE.out)
        clear HED HED2 HNE HG
        go_wp2
        go_roundw
        case rel => exact ⟨k + 1, _, _, HLT.out, by go_num, H11.out, HR.out⟩
        case measure => have := HLT.out; simp [intOf]; omega
    · have y1 : decide (k < n) = false := by simpa using hlt
      have y2 : decide ((k : Int) < (n : Int)) = false := by simp; omega
      obtain rfl : k = n := by omega
      have ht := HTK.out
      have hbk := ht.back
      rw [List.drop_eq_nil_of_le (by have := HN.out; omega)] at hbk
      have hbk : L = M := hbk
      subst hbk
      have HB := hide (ubound_any HU.out ht.fine.good (ht.fine.small (by have := HK.out; have := HN.out; omega)) HT.out)
      have hne := ht.ne (by omega)
      have hcl := ht.fine.close (by have := HK.out; have := HN.out; omega) (fun _ => by rw [ht.G]; exact HS.out)
      have HE := hide (show Fine sk.close S L (K + r.length) ∧ sk.close.O = [] ∧ sk.close.ch = s.ch ∧ ∃ o, sk.close.G = s.G ++ [o] from ⟨by rw [← HN.out]; exact hcl.1, hcl.2.1, hcl.2.2.1.trans ht.ch, sk.O, by rw [← ht.G]; exact hcl.2.2.2.1 hne⟩)
      clear ht hbk hne hcl hlt HGET
      go_wp2_with fail
      refine (Calls.mono (HB.out)) ?_
      rintro r w5 ⟨rfl, h5⟩
      have H5 := hide h5
      clear h5
      go_wp2
      go_ret
      exact ⟨rfl, _, H5.out, HE.out.1, HE.out.2.1, HE.out.2.2.1, HE.out.2.2.2⟩
end
end Go.Proofs.YtghcmakhfdnimaaDoor

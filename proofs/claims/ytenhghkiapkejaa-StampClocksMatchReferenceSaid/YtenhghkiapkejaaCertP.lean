/- Plain words: what is certain about the order of two stamps, and that it stays so. No program here. -/
import Derived.Test.YtenhghkiapkejaaContraP
import Derived.Test.YtenhghkiapkejaaW13
namespace Go.Proofs.Ytenhghkiapkejaa
theorem TOne.uniq {L : List I3} {l : List I4} {s t t' : I3} (h : TOne L l s t) (k : TOne L l s t') : t = t' := by
  obtain ⟨h1, _, h2, h3, _⟩ := h
  obtain ⟨k1, _, k2, k3, _⟩ := k
  obtain ⟨t1, t2, t3⟩ := t
  obtain ⟨u1, u2, u3⟩ := t'
  have a := h2.uniq k2
  have b := h3.uniq k3
  simp only [] at *
  rw [a, b, h1, k1]
theorem skOk_one {L : List I3} (hs : skOk (-1) L = true) {i j : Nat} (hi : i < L.length) (hj : j < L.length) (h : L[i].1 = L[j].1) : i = j := by
  rcases Nat.lt_trichotomy i j with k | k | k
  · have := skOk_lt (-1) L hs i j hi hj k; omega
  · exact k
  · have := skOk_lt (-1) L hs j i hj hi k; omega
theorem tight_at {L : List I3} {l : List I4} {out out' : List I3} {x : I2} (hs : skOk (-1) L = true) (hok : TightOk L l out) (hok' : TightOk L l out') {i : Nat} (hi : i < L.length) (hi' : i < out.length) (h : bndF out' out[i].1 = some x) : x = (out[i].2.1, out[i].2.2) := by
  obtain ⟨s, hsL, e, ht⟩ := tight_ex hok' h
  obtain ⟨j, hj, rfl⟩ := List.getElem_of_mem hsL
  have h1 := hok.2 i hi hi'
  have e2 : L[j].1 = L[i].1 := by rw [e, h1.1]
  have := skOk_one hs hj hi e2
  subst this
  have := ht.uniq h1
  rw [← this]
theorem bndF_some : ∀ {L : List I3} {s : I3}, s ∈ L → bndF L s.1 ≠ none
  | [], s, h => by simp at h
  | t :: L, s, h => by
    simp only [bndF]
    rcases List.mem_cons.1 h with rfl | h
    · cases bndF L s.1 <;> simp
    · have := bndF_some h
      cases hb : bndF L s.1 with
      | none => exact absurd hb this
      | some b => simp
theorem tight_some {L : List I3} {l l' : List I4} {out out' : List I3} (hok : TightOk L l out) (hok' : TightOk L l' out') {i : Nat} (hi : i < L.length) (hi' : i < out.length) : bndF out' out[i].1 ≠ none := by
  have h1 := hok.2 i hi hi'
  have hj : i < out'.length := by rw [hok'.1]; exact hi
  have h2 := hok'.2 i hi hj
  rw [h1.1, ← h2.1]
  exact bndF_some (List.getElem_mem hj)
/-- what Order says, in the words of one list of tight skews -/
def Cert (l : List I4) (X Y : I3) (d r : Int) : Prop :=
  (∃ n, Path l X.1 Y.1 n ∧ r = ordI d (-n) (-n)) ∨ ((∀ n, ¬ Path l X.1 Y.1 n) ∧ r = ordI d (X.2.1 - Y.2.2) (X.2.2 - Y.2.1))
theorem ord_cert {L : List I3} {l : List I4} {out : List I3} (hs : skOk (-1) L = true) (hok : TightOk L l out) {i k : Nat} (hi : i < out.length) (hk : k < out.length) {a b : I3} {r : Int} (ha : a.2.1 = out[i].1) (hb : b.2.1 = out[k].1)
    (h : OrdOk L l a b r) : Cert l out[i] out[k] (a.1 - b.1) r := by
  obtain ⟨_, _, _, out', x, y, g, hok', hx, hy, hg, rfl⟩ := h
  have hiL : i < L.length := by rw [← hok.1]; exact hi
  have hkL : k < L.length := by rw [← hok.1]; exact hk
  rw [ha] at hx hg
  rw [hb] at hy hg
  have ex := tight_at hs hok hok' hiL hi hx
  have ey := tight_at hs hok hok' hkL hk hy
  subst ex; subst ey
  rcases hg with ⟨n, hn, rfl⟩ | ⟨hno, rfl⟩
  · exact .inl ⟨n, hn, rfl⟩
  · exact .inr ⟨hno, rfl⟩
theorem ord_not_bad {L : List I3} {l l' : List I4} {out : List I3} (hsub : ∀ m ∈ l', m ∈ l) (hok : TightOk L l out) (hpr : proper L l' = true) {i k : Nat} (hi : i < out.length) (hk : k < out.length) {a b : I3} (ha : a.2.1 = out[i].1) (hb : b.2.1 = out[k].1) (hva : stVal a = true) (hvb : stVal b = true) : ¬ OrdBad L l' a b := by
  have hiL : i < L.length := by rw [← hok.1]; exact hi
  have hkL : k < L.length := by rw [← hok.1]; exact hk
  rintro (h | h | h | ⟨j, _, h⟩ | ⟨out', hok', h | h⟩)
  · rw [hva] at h; cases h
  · rw [hvb] at h; cases h
  · rw [hpr] at h; cases h
  · exact ok_not_bad (fun m hm => hsub m (List.mem_of_mem_take hm)) hok h
  · rw [ha] at h
    exact tight_some hok hok' hiL hi h
  · rw [hb] at h
    exact tight_some hok hok' hkL hk h
theorem path_one {l : List I4} {p q n n' : Int} (hnb : ¬ FromBad l p) (h : Path l p q n) (k : Path l p q n') : n = n' := by
  by_cases e : n = n'
  · exact e
  · exact absurd ⟨q, n, n', h, k, e⟩ hnb
theorem cert_neg {l : List I4} {X Y : I3} {d r r' : Int} (hnb : ¬ FromBad l X.1) (hX : X.2.1 ≤ X.2.2) (hY : Y.2.1 ≤ Y.2.2) (h : Cert l X Y d r) (k : Cert l Y X (-d) r') : r = -r' ∧ -1 ≤ r ∧ r ≤ 1 := by
  rcases h with ⟨n, hn, rfl⟩ | ⟨hno, rfl⟩
  · rcases k with ⟨n', hn', rfl⟩ | ⟨hno', _⟩
    · have := path_one hnb hn (path_sym hn')
      subst this
      unfold ordI
      split <;> split <;> (try split) <;> (try split) <;> omega
    · exact absurd (path_sym hn) (hno' _)
  · rcases k with ⟨n', hn', _⟩ | ⟨_, rfl⟩
    · exact absurd (path_sym hn') (hno _)
    · unfold ordI
      split <;> split <;> (try split) <;> (try split) <;> omega
/-- an advance and the one that follows from it lie within the bounds -/
theorem tight_follow {L : List I3} {l : List I4} {out : List I3} (hs : skOk (-1) L = true) (hok : TightOk L l out) {i k : Nat} (hi : i < out.length) (hk : k < out.length) {n : Int} (hn : Path l out[i].1 out[k].1 n) : out[i].2.1 + n ≤ out[k].2.2 ∧ out[k].2.1 ≤ out[i].2.2 + n := by
  have hiL : i < L.length := by rw [← hok.1]; exact hi
  have hkL : k < L.length := by rw [← hok.1]; exact hk
  have h1 := hok.2 i hiL hi
  have h2 := hok.2 k hkL hk
  have hle := h1.2.2.2.2
  rw [h1.1, h2.1] at hn
  have hbk : ∀ q m, Path l L[k].1 q m → out[i].2.1 + n ≤ bhi L q - m ∧ blo L q - m ≤ out[i].2.2 + n := by
    intro q m hq
    have hp := path_trans hn hq
    have a := h1.2.2.1.2.1 _ _ hp
    have b := h1.2.2.2.1.2.1 _ _ hp
    omega
  have hself := hbk _ _ .base
  have hb := bndF_mem (-1) L hs L[k] (List.getElem_mem hkL)
  have e1 : blo L L[k].1 = L[k].2.1 := by unfold blo; rw [hb]; rfl
  have e2 : bhi L L[k].1 = L[k].2.2 := by unfold bhi; rw [hb]; rfl
  have c1 := h2.2.2.1.2.2
  have c2 := h2.2.2.2.1.2.2
  refine ⟨?_, ?_⟩
  · rcases c2 with c | ⟨q, m, hq, c⟩
    · omega
    · have := hbk q m hq; omega
  · rcases c1 with c | ⟨q, m, hq, c⟩
    · omega
    · have := hbk q m hq; omega
/-- what was certain stays so -/
theorem cert_stays {L : List I3} {l l' : List I4} {out out' : List I3} (hs : skOk (-1) L = true) (hsub : ∀ m ∈ l', m ∈ l) (hok : TightOk L l out) (hok' : TightOk L l' out') {i k : Nat} (hi : i < out.length) (hk : k < out.length) (hi' : i < out'.length) (hk' : k < out'.length) {d r r' : Int}
    (h : Cert l out[i] out[k] d r) (h' : Cert l' out'[i] out'[k] d r') : r' = 0 ∨ r' = r := by
  have hiL : i < L.length := by rw [← hok.1]; exact hi
  have hkL : k < L.length := by rw [← hok.1]; exact hk
  have a1 := hok.2 i hiL hi
  have a2 := hok.2 k hkL hk
  have b1 := hok'.2 i hiL hi'
  have b2 := hok'.2 k hkL hk'
  have m1 := low_mono hsub b1.2.2.1 a1.2.2.1
  have m2 := high_mono hsub b1.2.2.2.1 a1.2.2.2.1
  have m3 := low_mono hsub b2.2.2.1 a2.2.2.1
  have m4 := high_mono hsub b2.2.2.2.1 a2.2.2.2.1
  have hle1 := a1.2.2.2.2
  have hle2 := a2.2.2.2.2
  have hnb : ¬ FromBad l out[i].1 := by
    rw [a1.1]
    obtain ⟨D, hD⟩ := a1.2.1
    exact hD.not_bad
  rcases h with ⟨n, hn, rfl⟩ | ⟨hno, rfl⟩
  · have hf := tight_follow hs hok hi hk hn
    rcases h' with ⟨n', hn', rfl⟩ | ⟨hno', rfl⟩
    · rw [b1.1, b2.1] at hn'
      rw [a1.1, a2.1] at hn
      rw [a1.1] at hnb
      have := path_one hnb hn (path_mono hsub hn')
      subst this
      exact .inr rfl
    · unfold ordI
      split <;> split <;> (try split) <;> (try split) <;> omega
  · rcases h' with ⟨n', hn', rfl⟩ | ⟨hno', rfl⟩
    · rw [b1.1, b2.1] at hn'
      rw [a1.1, a2.1] at hno
      exact absurd (path_mono hsub hn') (hno _)
    · unfold ordI
      split <;> split <;> (try split) <;> (try split) <;> omega
/-- the bounds of the second one's advance, the first one's being v -/
def Fol (l : List I4) (X Y : I3) (v lo hi : Int) : Prop := (∃ n, Path l X.1 Y.1 n ∧ lo = v + n ∧ hi = v + n) ∨ ((∀ n, ¬ Path l X.1 Y.1 n) ∧ lo = Y.2.1 ∧ hi = Y.2.2)
/-- the least and the greatest difference, the first one's advances before v being done -/
def Lm (l : List I4) (X Y : I3) (d v least most : Int) : Prop :=
  (v = X.2.1 ∧ least = 1099511627776 ∧ most = -1099511627776) ∨ X.2.1 < v ∧ ((∃ n, Path l X.1 Y.1 n ∧ least = d + n ∧ most = d + n) ∨ ((∀ n, ¬ Path l X.1 Y.1 n) ∧ least = d - (v - 1) + Y.2.1 ∧ most = d - X.2.1 + Y.2.2))
theorem Lm.step {l : List I4} {X Y : I3} {d v least most lo hi : Int} (hnb : ¬ FromBad l X.1) (hv : X.2.1 ≤ v) (hb : -10000000000 ≤ d - v + lo ∧ d - v + hi ≤ 10000000000) (hle : Y.2.1 ≤ Y.2.2) (hlh : lo ≤ hi) (h : Lm l X Y d v least most) (hf : Fol l X Y v lo hi) :
    Lm l X Y d (v + 1) (min least (d - v + lo)) (max most (d - v + hi)) := by
  right
  refine ⟨by omega, ?_⟩
  rcases hf with ⟨n, hn, rfl, rfl⟩ | ⟨hno, rfl, rfl⟩
  · left
    refine ⟨n, hn, ?_⟩
    rcases h with ⟨rfl, rfl, rfl⟩ | ⟨_, ⟨n', hn', rfl, rfl⟩ | ⟨hno', _⟩⟩
    · omega
    · have := path_one hnb hn hn'
      omega
    · exact absurd hn (hno' _)
  · right
    refine ⟨hno, ?_⟩
    rcases h with ⟨rfl, rfl, rfl⟩ | ⟨_, ⟨n', hn', _⟩ | ⟨_, rfl, rfl⟩⟩
    · omega
    · exact absurd hn' (hno _)
    · omega
theorem Lm.step' {l : List I4} {X Y : I3} {d v least most lo hi u t : Int} (hnb : ¬ FromBad l X.1) (hv : X.2.1 ≤ v) (hb : -10000000000 ≤ d - v + lo ∧ d - v + hi ≤ 10000000000) (hle : Y.2.1 ≤ Y.2.2) (hlh : lo ≤ hi) (h : Lm l X Y d v least most) (hf : Fol l X Y v lo hi)
    (hu : u = d - v + lo) (ht : t = d - v + hi) : Lm l X Y d (v + 1) (if u < least then u else least) (if most < t then t else most) := by
  have e1 : (if u < least then u else least) = min least u := by split <;> omega
  have e2 : (if most < t then t else most) = max most t := by split <;> omega
  rw [e1, e2]
  subst hu; subst ht; exact Lm.step hnb hv hb hle hlh h hf
theorem ord_prefix {L : List I3} {l l' : List I4} {out : List I3} (hs : skOk (-1) L = true) (hsub : ∀ m ∈ l', m ∈ l) (hok : TightOk L l out) {i k : Nat} (hi : i < out.length) (hk : k < out.length) {a b : I3} {r r' : Int} (ha : a.2.1 = out[i].1) (hb : b.2.1 = out[k].1)
    (h : Cert l out[i] out[k] (a.1 - b.1) r) (h' : OrdOk L l' a b r') : r' = 0 ∨ r' = r := by
  have hiL : i < L.length := by rw [← hok.1]; exact hi
  have hkL : k < L.length := by rw [← hok.1]; exact hk
  have h'' := h'
  obtain ⟨_, _, _, out', _, _, _, hok', _⟩ := h''
  have hi' : i < out'.length := by rw [hok'.1]; exact hiL
  have hk' : k < out'.length := by rw [hok'.1]; exact hkL
  have e1 : a.2.1 = out'[i].1 := by rw [ha, (hok.2 i hiL hi).1, (hok'.2 i hiL hi').1]
  have e2 : b.2.1 = out'[k].1 := by rw [hb, (hok.2 k hkL hk).1, (hok'.2 k hkL hk').1]
  exact cert_stays hs hsub hok hok' hi hk hi' hk' h (ord_cert hs hok' hi' hk' e1 e2 h')
theorem Lm.bnd {l : List I4} {X Y : I3} {d v least most : Int} (hsp : ∀ n, Path l X.1 Y.1 n → -60000000 ≤ n ∧ n ≤ 60000000) (hd : -1000 ≤ d ∧ d ≤ 1000) (hv : -100001 ≤ v ∧ v ≤ 100001) (hX : -100001 ≤ X.2.1 ∧ X.2.1 ≤ 100001) (hY : -100001 ≤ Y.2.1 ∧ Y.2.2 ≤ 100001) (hY' : Y.2.1 ≤ Y.2.2) (h : Lm l X Y d v least most) : -1099511627776 ≤ least ∧ least ≤ 1099511627776 ∧ -1099511627776 ≤ most ∧ most ≤ 1099511627776 := by
  rcases h with ⟨_, rfl, rfl⟩ | ⟨_, ⟨n', hn', rfl, rfl⟩ | ⟨_, rfl, rfl⟩⟩
  · omega
  · have := hsp _ hn'; omega
  · omega
theorem Lm.done {l : List I4} {X Y : I3} {d least most r : Int} (hnb : ¬ FromBad l X.1) (hX : X.2.1 ≤ X.2.2) (hY : Y.2.1 ≤ Y.2.2) (h : Lm l X Y d (X.2.2 + 1) least most) (hc : Cert l X Y d r) : ((r == -1) = decide (most < 0)) ∧ ((r == 1) = decide (0 < least)) := by
  rcases h with ⟨h1, _⟩ | ⟨_, h⟩
  · omega
  · have e1 : ((r == -1) = decide (most < 0)) ↔ (r = -1 ↔ most < 0) := by
      rw [Bool.eq_iff_iff, beq_iff_eq, decide_eq_true_eq]
    have e2 : ((r == 1) = decide (0 < least)) ↔ (r = 1 ↔ 0 < least) := by
      rw [Bool.eq_iff_iff, beq_iff_eq, decide_eq_true_eq]
    rw [e1, e2]
    rcases hc with ⟨n, hn, rfl⟩ | ⟨hno, rfl⟩
    · rcases h with ⟨n', hn', rfl, rfl⟩ | ⟨hno', _⟩
      · have := path_one hnb hn hn'
        subst this
        unfold ordI
        split <;> (try split) <;> omega
      · exact absurd hn (hno' _)
    · rcases h with ⟨n', hn', _⟩ | ⟨_, rfl, rfl⟩
      · exact absurd hn' (hno _)
      · unfold ordI
        split <;> (try split) <;> omega
theorem spread_fol {l : List I4} {X Y : I3} {v : Int} {os : List Int} {ks : List Bool} (h : SpreadOk l X.1 v os ks) (hY : inP Y.1) : Fol l X Y v (if kn ks Y.1 then vl os Y.1 else Y.2.1) (if kn ks Y.1 then vl os Y.1 else Y.2.2) := by
  cases hk : kn ks Y.1 with
  | true =>
    have h1 := h.2.2.1 _ hY hk
    exact .inl ⟨_, h1, by simp; omega, by simp; omega⟩
  | false =>
    refine .inr ⟨fun n hn => ?_, by simp, by simp⟩
    have := (h.2.2.2.1 _ _ hn).1
    rw [hk] at this
    cases this
theorem spread_path {l : List I4} {p v q n : Int} {os : List Int} {ks : List Bool} (h : SpreadOk l p v os ks) (hq : inP q) (hn : Path l p q n) : -60000000 ≤ n ∧ n ≤ 60000000 := by
  obtain ⟨h1, h2⟩ := h.2.2.2.1 _ _ hn
  have := h.2.2.2.2 _ hq h1
  omega
end Go.Proofs.Ytenhghkiapkejaa

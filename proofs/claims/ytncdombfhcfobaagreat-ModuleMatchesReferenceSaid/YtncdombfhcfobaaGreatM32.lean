/- Plain laws: what a valid list of modules is; how deep its modules lie. -/
import Derived.Test.YtncdombfhcfobaaGreatM31
namespace Go.Proofs.YtncdombfhcfobaaGreat
open Go.RowKit
theorem itOk_parts {s : It} (h : itOk s = true) : PlOk s ∧ (s.kind = 1 ∧ s.text.size ≤ 40 ∧ s.mod = 0 ∨ s.kind = 2 ∧ s.text = ByteArray.empty ∧ 1 ≤ s.mod ∧ s.mod ≤ 20) := by
  unfold itOk at h
  simp only [Bool.and_eq_true, Bool.or_eq_true, decide_eq_true_eq, inB_iff] at h
  obtain ⟨⟨⟨h1, h2⟩, h3, h4⟩, h5⟩ := h
  refine ⟨⟨h1, h2, h3, h4⟩, ?_⟩
  rcases h5 with ⟨⟨a, b⟩, c⟩ | ⟨⟨a, b⟩, c⟩
  · exact .inl ⟨a, b, c⟩
  · exact .inr ⟨a, b, c⟩
theorem ascB_parts {lo hi : Int} : ∀ (l : List Int) (p : Int), ascB lo hi p l = true → l.Pairwise (· < ·) ∧ ∀ x ∈ l, p < x ∧ lo ≤ x ∧ x ≤ hi
  | [], p, _ => ⟨List.Pairwise.nil, fun x hx => by cases hx⟩
  | n :: l, p, h => by
    unfold ascB at h
    simp only [Bool.and_eq_true, decide_eq_true_eq, inB_iff] at h
    obtain ⟨⟨h1, h2⟩, h3⟩ := h
    obtain ⟨k1, k2⟩ := ascB_parts l n h3
    refine ⟨List.pairwise_cons.2 ⟨fun x hx => (k2 x hx).1, k1⟩, fun x hx => ?_⟩
    rcases List.mem_cons.1 hx with rfl | hx
    · exact ⟨h2, h1⟩
    · have := k2 x hx
      exact ⟨by omega, this.2⟩
theorem itsOk_parts {l : List It} (h : itsOk l = true) : l.length ≤ 12 ∧ (l.map (·.id)).Pairwise (· < ·) ∧ (∀ s ∈ l, 0 ≤ s.id ∧ s.id ≤ 99) ∧ ∀ s ∈ l, itOk s = true := by
  unfold itsOk at h
  simp only [Bool.and_eq_true, decide_eq_true_eq, List.all_eq_true] at h
  obtain ⟨⟨h1, h2⟩, h3⟩ := h
  obtain ⟨k1, k2⟩ := ascB_parts _ _ h2
  exact ⟨h1, k1, fun s hs => (k2 s.id (List.mem_map.2 ⟨s, hs, rfl⟩)).2, h3⟩
theorem valid_parts {ms : List Mo} (h : validB ms = true) : ms.length ≤ 20 ∧ (ms.map (·.id)).Pairwise (· < ·) ∧ (∀ m ∈ ms, (1 ≤ m.id ∧ m.id ≤ 20) ∧ itsOk m.items = true ∧ knownB ms m.items = true) ∧ (deepN ms 12).length = ms.length := by
  unfold validB at h
  simp only [Bool.and_eq_true, decide_eq_true_eq, List.all_eq_true] at h
  obtain ⟨⟨⟨h1, h2⟩, h3⟩, h4⟩ := h
  refine ⟨h1, (ascB_parts _ _ h2).1, fun m hm => ?_, h4⟩
  have := h3 m hm
  unfold moOk at this
  simp only [Bool.and_eq_true, inB_iff] at this
  exact ⟨this.1.1, this.1.2, this.2⟩
theorem pair_ne {l : List Int} (h : l.Pairwise (· < ·)) : l.Nodup := h.imp (fun {a b} hab e => by omega)
theorem findM_mem {ms : List Mo} {n : Int} {m : Mo} (h : findM ms n = some m) : m ∈ ms ∧ m.id = n := ⟨List.mem_of_find?_eq_some h, by simpa using List.find?_some h⟩
theorem findM_of {ms : List Mo} (hn : (ms.map (·.id)).Nodup) {m : Mo} (hm : m ∈ ms) : findM ms m.id = some m := by
  induction ms with
  | nil => cases hm
  | cons a ms ih =>
    rw [List.map_cons, List.nodup_cons] at hn
    unfold findM
    rcases List.mem_cons.1 hm with rfl | hm'
    · rw [List.find?_cons_of_pos (by simp)]
    · have : a.id ≠ m.id := fun e => hn.1 (by rw [e]; exact List.mem_map.2 ⟨m, hm', rfl⟩)
      rw [List.find?_cons_of_neg (by simpa using this)]
      exact ih hn.2 hm'
theorem itemsOf_mem {ms : List Mo} {n : Int} {s : It} (h : s ∈ itemsOf ms n) : ∃ m ∈ ms, m.id = n ∧ s ∈ m.items := by
  unfold itemsOf at h
  cases hf : findM ms n with
  | none => rw [hf] at h; cases h
  | some m => rw [hf] at h; exact ⟨m, (findM_mem hf).1, (findM_mem hf).2, h⟩
theorem itemsOf_of {ms : List Mo} (hn : (ms.map (·.id)).Nodup) {m : Mo} (hm : m ∈ ms) : itemsOf ms m.id = m.items := by unfold itemsOf; rw [findM_of hn hm]
theorem itemsOf_none {ms : List Mo} {n : Int} (h : ∀ m ∈ ms, m.id ≠ n) : itemsOf ms n = [] := by
  unfold itemsOf
  cases hf : findM ms n with
  | none => rfl
  | some m => exact absurd (findM_mem hf).2 (h m (findM_mem hf).1)
theorem Dp_nil (ms : List Mo) : ∀ f, Dp ms f []
  | 0 => rfl
  | _ + 1 => fun s hs => by cases hs
theorem Dp_up {ms : List Mo} : ∀ (f g : Nat) (l : List It), f ≤ g → Dp ms f l → Dp ms g l
  | 0, g, l, _, h => by rw [show l = [] from h]; exact Dp_nil ms g
  | f + 1, 0, l, hg, _ => by omega
  | f + 1, g + 1, l, hg, h => fun s hs => Dp_up f g _ (by omega) (h s hs)
theorem fold_le {D : List (Int × Int)} (hD : InvD D) : ∀ (l : List It) (lv : Int), 1 ≤ lv → lv ≤ 13 → l.foldl (lvStep D) lv ≤ 12 → lv ≤ l.foldl (lvStep D) lv ∧ ∀ s ∈ l, s.kind = 2 → ∃ n, D.lookup s.mod = some n ∧ n + 1 ≤ l.foldl (lvStep D) lv
  | [], lv, _, _, _ => ⟨Int.le_refl _, fun s hs => by cases hs⟩
  | a :: l, lv, h1, h2, h3 => by
    have hb := lvStep_bd hD h1 h2 a
    rw [List.foldl_cons] at h3 ⊢
    obtain ⟨k1, k2⟩ := fold_le hD l _ hb.1 hb.2 h3
    have hs : lv ≤ lvStep D lv a ∧ (a.kind = 2 → ∃ n, D.lookup a.mod = some n ∧ n + 1 ≤ lvStep D lv a ∨ lvStep D lv a = 13) := by
      unfold lvStep
      by_cases hk : a.kind = 2
      · rw [if_pos hk]
        cases hl : D.lookup a.mod with
        | none => exact ⟨h2, fun _ => ⟨0, .inr rfl⟩⟩
        | some n =>
          refine ⟨by dsimp only; split <;> omega, fun _ => ⟨n, .inl ⟨rfl, by dsimp only; split <;> omega⟩⟩⟩
      · rw [if_neg hk]
        exact ⟨Int.le_refl _, fun e => absurd e hk⟩
    refine ⟨by omega, fun s hs' hk => ?_⟩
    rcases List.mem_cons.1 hs' with rfl | hs'
    · obtain ⟨n, ⟨q1, q2⟩ | q⟩ := hs.2 hk
      · exact ⟨n, q1, by omega⟩
      · omega
    · exact k2 s hs' hk
def InvP (ms : List Mo) (D : List (Int × Int)) : Prop := InvD D ∧ (∀ k n, D.lookup k = some n → Dp ms n.toNat (itemsOf ms k)) ∧ (D.map (·.1)).Nodup ∧ ∀ k ∈ D.map (·.1), k ∈ ms.map (·.id)
theorem putD_keys (k v : Int) : ∀ D : List (Int × Int), ∀ j, j ∈ (putD k v D).map (·.1) ↔ j = k ∨ j ∈ D.map (·.1)
  | [], j => by simp [putD]
  | (a, b) :: D, j => by
    have ih := putD_keys k v D j
    unfold putD
    by_cases h : a = k
    · subst h; simp
    · simp only [h, if_false, List.map_cons, List.mem_cons, ih]
      constructor
      · rintro (h | h | h)
        · exact .inr (.inl h)
        · exact .inl h
        · exact .inr (.inr h)
      · rintro (h | h | h)
        · exact .inr (.inl h)
        · exact .inl h
        · exact .inr (.inr h)
theorem putD_nodup (k v : Int) : ∀ D : List (Int × Int), (D.map (·.1)).Nodup → ((putD k v D).map (·.1)).Nodup
  | [], _ => by simp [putD]
  | (a, b) :: D, h => by
    rw [List.map_cons, List.nodup_cons] at h
    unfold putD
    by_cases hk : a = k
    · subst hk; simp only [if_true, List.map_cons, List.nodup_cons]; exact h
    · simp only [hk, if_false, List.map_cons, List.nodup_cons]
      refine ⟨fun hm => ?_, putD_nodup k v D h.2⟩
      rcases (putD_keys k v D a).1 hm with e | e
      · exact hk e
      · exact h.1 e
theorem dStep_P {ms : List Mo} (hv : validB ms = true) {D : List (Int × Int)} (h : InvP ms D) {m : Mo} (hm : m ∈ ms) : InvP ms (dStep D m) := by
  obtain ⟨hlen, hasc, hmo, -⟩ := valid_parts hv
  obtain ⟨h1, h2, h3, h4⟩ := h
  refine ⟨dStep_inv h1 m, ?_, ?_, ?_⟩
  · unfold dStep
    split
    · rename_i hle
      intro k n hn
      rw [lookup_putD] at hn
      split at hn
      · rename_i hk
        injection hn with hn
        subst hk
        subst hn
        rw [itemsOf_of (pair_ne hasc) hm]
        have hb := foldl_bd h1 m.items 1 (by omega) (by omega)
        obtain ⟨q1, q2⟩ := fold_le h1 m.items 1 (by omega) (by omega) hle
        unfold levels at hle ⊢
        obtain ⟨f, hf⟩ : ∃ f : Nat, (m.items.foldl (lvStep D) 1).toNat = f + 1 := ⟨(m.items.foldl (lvStep D) 1).toNat - 1, by omega⟩
        rw [hf]
        intro s hs
        rcases (itOk_parts ((itsOk_parts (hmo m hm).2.1).2.2.2 s hs)).2 with ⟨_, _, e⟩ | ⟨e, _⟩
        · rw [e, itemsOf_none (fun m' hm' => by have := (hmo m' hm').1; omega)]
          exact Dp_nil ms f
        · obtain ⟨n, k1, k2⟩ := q2 s hs e
          have := (h1 _ _ k1)
          exact Dp_up n.toNat f _ (by omega) (h2 _ _ k1)
      · exact h2 k n hn
    · exact h2
  · unfold dStep
    split
    · exact putD_nodup _ _ _ h3
    · exact h3
  · unfold dStep
    split
    · intro k hk
      rcases (putD_keys _ _ _ k).1 hk with rfl | hk
      · exact List.mem_map.2 ⟨m, hm, rfl⟩
      · exact h4 k hk
    · exact h4
theorem dFold_P {ms : List Mo} (hv : validB ms = true) : ∀ (l : List Mo) (D : List (Int × Int)), (∀ m ∈ l, m ∈ ms) → InvP ms D → InvP ms (l.foldl dStep D)
  | [], _, _, h => h
  | m :: l, _, hl, h => dFold_P hv l _ (fun x hx => hl x (List.mem_cons_of_mem _ hx)) (dStep_P hv h (hl m (by simp)))
theorem deepN_P {ms : List Mo} (hv : validB ms = true) : ∀ t, InvP ms (deepN ms t)
  | 0 => ⟨fun k n h => by simp [deepN] at h, fun k n h => by simp [deepN] at h, by simp [deepN], by simp [deepN]⟩
  | t + 1 => dFold_P hv ms _ (fun _ h => h) (deepN_P hv t)
theorem pigeon {α : Type} [DecidableEq α] : ∀ (K I : List α), K.Nodup → (∀ x ∈ K, x ∈ I) → I.length ≤ K.length → ∀ x ∈ I, x ∈ K
  | [], I, _, _, hl, x, hx => by
    have : I = [] := List.eq_nil_of_length_eq_zero (by simpa using hl)
    rw [this] at hx; cases hx
  | k :: K, I, hn, hs, hl, x, hx => by
    rw [List.nodup_cons] at hn
    have hk := hs k (by simp)
    by_cases e : x = k
    · subst e; simp
    · refine List.mem_cons_of_mem _ (pigeon K (I.erase k) hn.2 (fun y hy => ?_) ?_ x ((List.mem_erase_of_ne e).2 hx))
      · exact (List.mem_erase_of_ne (fun e' => hn.1 (by rw [← e']; exact hy))).2 (hs y (List.mem_cons_of_mem _ hy))
      · rw [List.length_erase_of_mem hk]; simp only [List.length_cons] at hl; omega
theorem lookup_of_key : ∀ (D : List (Int × Int)) (k : Int), k ∈ D.map (·.1) → ∃ n, D.lookup k = some n
  | [], k, h => by cases h
  | (a, b) :: D, k, h => by
    by_cases e : k = a
    · subst e; exact ⟨b, by simp [List.lookup]⟩
    · obtain ⟨n, hn⟩ := lookup_of_key D k (by simpa [e] using h)
      exact ⟨n, by simp [List.lookup, beq_eq_false_iff_ne.2 e, hn]⟩
/-- each module of a valid list lies at most twelve levels deep -/
theorem Dp_mod {ms : List Mo} (hv : validB ms = true) (n : Int) : Dp ms 12 (itemsOf ms n) := by
  obtain ⟨hlen, hasc, hmo, hd⟩ := valid_parts hv
  by_cases h : ∃ m ∈ ms, m.id = n
  · obtain ⟨m, hm, rfl⟩ := h
    obtain ⟨h1, h2, h3, h4⟩ := deepN_P hv 12
    have hk := pigeon _ _ h3 h4 (by simp [hd]) m.id (List.mem_map.2 ⟨m, hm, rfl⟩)
    obtain ⟨v, hv'⟩ := lookup_of_key _ _ hk
    have := h1 _ _ hv'
    exact Dp_up v.toNat 12 _ (by omega) (h2 _ _ hv')
  · rw [itemsOf_none (fun m hm e => h ⟨m, hm, e⟩)]
    exact Dp_nil ms 12
theorem itemsOf_ok {ms : List Mo} (hv : validB ms = true) (n : Int) : itsOk (itemsOf ms n) = true := by
  by_cases h : ∃ m ∈ ms, m.id = n
  · obtain ⟨m, hm, rfl⟩ := h
    obtain ⟨hlen, hasc, hmo, hd⟩ := valid_parts hv
    rw [itemsOf_of (pair_ne hasc) hm]
    exact (hmo m hm).2.1
  · rw [itemsOf_none (fun m hm e => h ⟨m, hm, e⟩)]
    rfl
theorem mem_putI {x y : It} : ∀ {l : List It}, x ∈ putI y l → x = y ∨ x ∈ l
  | [], h => by simpa [putI] using h
  | z :: l, h => by
    unfold putI at h
    split at h
    · rcases List.mem_cons.1 h with h | h
      · exact .inl h
      · exact .inr (List.mem_cons_of_mem _ h)
    · rcases List.mem_cons.1 h with h | h
      · exact .inr (by rw [h]; simp)
      · rcases mem_putI h with h | h
        · exact .inl h
        · exact .inr (List.mem_cons_of_mem _ h)
theorem mem_delI {x : It} {n : Int} : ∀ {l : List It}, x ∈ delI n l → x ∈ l
  | [], h => h
  | z :: l, h => by
    unfold delI at h
    split at h
    · exact List.mem_cons_of_mem _ h
    · rcases List.mem_cons.1 h with h | h
      · rw [h]; simp
      · exact List.mem_cons_of_mem _ (mem_delI h)
theorem mem_putAll {x : It} : ∀ {xs l : List It}, x ∈ putAll l xs → x ∈ xs ∨ x ∈ l
  | [], _, h => .inr h
  | y :: xs, l, h => by
    rcases mem_putAll (xs := xs) (l := putI y l) h with h | h
    · exact .inl (List.mem_cons_of_mem _ h)
    · rcases mem_putI h with h | h
      · exact .inl (by rw [h]; simp)
      · exact .inr h
theorem mem_delAll {x : It} : ∀ {ns : List Int} {l : List It}, x ∈ delAll l ns → x ∈ l
  | [], _, h => h
  | n :: ns, l, h => mem_delI (mem_delAll (ns := ns) (l := delI n l) h)
theorem mem_byL {x : It} {l : List It} (h : x ∈ byL l) : x ∈ l := by
  rcases mem_putAll (xs := l) (l := []) h with h | h
  · exact h
  · cases h
theorem mem_madeM {ms : List Mo} {c : Cp} {x : It} (h : x ∈ madeM ms c) : x ∈ c.changes ∨ x ∈ itemsOf ms c.mod := by
  rcases mem_putAll h with h | h
  · exact .inl h
  · exact .inr (mem_byL (mem_delAll h))
theorem cpOk_parts {c : Cp} (h : cpOk c = true) : (1 ≤ c.code ∧ c.code ≤ 39999) ∧ (1 ≤ c.mod ∧ c.mod ≤ 20) ∧ (0 ≤ c.x ∧ c.x ≤ 4095 ∧ 0 ≤ c.y ∧ c.y ≤ 4095) ∧ itsOk c.changes = true ∧ ascB 0 99 (-1) c.gone = true ∧ ∀ s ∈ c.changes, s.id ∉ c.gone := by
  unfold cpOk codeB plB at h
  simp only [Bool.and_eq_true, inB_iff, Bool.not_eq_true', List.any_eq_false, decide_eq_true_eq] at h
  obtain ⟨⟨⟨⟨⟨⟨h1, _⟩, h2⟩, ⟨h3, h4⟩, h5, h6⟩, h7⟩, h8⟩, h9⟩ := h
  exact ⟨h1, h2, ⟨h3, h4, h5, h6⟩, h7, h8, h9⟩
theorem vc_parts {ms : List Mo} {c : Cp} (h : validCopyB ms c = true) : validB ms = true ∧ cpOk c = true ∧ (findM ms c.mod).isSome = true ∧ knownB ms c.changes = true := by
  unfold validCopyB at h
  simp only [Bool.and_eq_true] at h
  exact ⟨h.1.1.1, h.1.1.2, h.1.2, h.2⟩
theorem made_ok {ms : List Mo} {c : Cp} {s : List It} (h : validCopyB ms c = true) (hs : SortOf (madeM ms c) s) : (∀ t ∈ s, itOk t = true) ∧ Dp ms 13 s := by
  obtain ⟨h1, h2, h3, h4⟩ := vc_parts h
  refine ⟨fun t ht => ?_, fun t _ => Dp_mod h1 t.mod⟩
  rcases mem_madeM ((hs.1.mem_iff).1 ht) with ht | ht
  · exact (itsOk_parts (cpOk_parts h2).2.2.2.1).2.2.2 t ht
  · exact (itsOk_parts (itemsOf_ok h1 _)).2.2.2 t ht
/-- the iterator of placed, as deep as items lie -/
theorem placed_seq (n n0 n1 : Nat) (hn01 : n0 ≤ n1) (h2 : 2 ≤ n) (ms : List Mo) (rows : List MR) (A : Option Addr) (N cc : Nat) (hNn : N ≤ 9223372036854775807) (hok : ∀ k, ∀ t ∈ itemsOf ms k, PlOk t) :
    ∀ (f : Nat) (items : List It) (path : List Int) (x y : Int), Dp ms f items → (∀ t ∈ items, PlOk t) → (0 ≤ x ∧ 0 ≤ y ∧ x + 4095 * (f : Int) ≤ 1000000 ∧ y + 4095 * (f : Int) ≤ 1000000) → path.length + f ≤ 100 →
    ∀ (Ai Ap : Option Addr) (ni ci kp ep bi bp ba bl : Nat) (w : World), PlMem n0 n1 ms rows A N cc items path x y Ai Ap ni ci kp ep bi bp ba bl w →
      SeqG Fence.wide n Tryz.prog 79 #[.pointer (some ⟨bi, 0, none⟩), .pointer (some ⟨bp, 0, none⟩), .pointer (some ⟨ba, 0, none⟩), .pointer (some ⟨bl, 0, none⟩)] encY n0 n1 (GY n1) (fun ys => ys.map ofY = plc ms f items path x y) (fun ys => ys.map ofY <+: plc ms f items path x y) w
  | 0, items, path, x, y, hd, hi, hxy, hp, Ai, Ap, ni, ci, kp, ep, bi, bp, ba, bl, w, hm => by
    have e : items = [] := hd
    subst e
    exact placed_one n n0 n1 hn01 h2 ms rows A N cc hNn 0 [] path x y hi ⟨hxy.1, hxy.2.1, by omega, by omega⟩ (by omega) (fun s hs => by cases hs) Ai Ap ni ci kp ep bi bp ba bl w hm
  | f + 1, items, path, x, y, hd, hi, hxy, hp, Ai, Ap, ni, ci, kp, ep, bi, bp, ba, bl, w, hm => by
    refine placed_one n n0 n1 hn01 h2 ms rows A N cc hNn f items path x y hi ⟨hxy.1, hxy.2.1, by omega, by omega⟩ (by omega) (fun s hs => ?_) Ai Ap ni ci kp ep bi bp ba bl w hm
    have hs' := hi s hs
    obtain ⟨q1, q2, q3, q4⟩ := hs'
    intro Ai Ap ni ci kp ep bi bp ba bl w hm
    exact placed_seq n n0 n1 hn01 h2 ms rows A N cc hNn hok f (itemsOf ms s.mod) (path ++ [s.id]) (x + s.x) (y + s.y) (hd s hs) (hok s.mod) ⟨by omega, by omega, by omega, by omega⟩ (by simp only [List.length_append, List.length_cons, List.length_nil]; omega) Ai Ap ni ci kp ep bi bp ba bl w hm
end Go.Proofs.YtncdombfhcfobaaGreat

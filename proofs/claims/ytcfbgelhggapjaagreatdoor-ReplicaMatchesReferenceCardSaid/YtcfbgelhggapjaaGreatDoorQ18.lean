/- One record cut out of a list. -/
import Derived.Test.YtcfbgelhggapjaaGreatDoorQ17
import Derived.Test.YtcfbgelhggapjaaGreatDoorQ16
namespace Go.Proofs.YtcfbgelhggapjaaGreatDoor
open Go.RowKit Go.Shelf
theorem cut_one {w0 : World} {B n c : Nat} {A : Option Addr} {l : List Rc} (h : SlR w0 B 7 A n (l.flatMap cR)) (hnc : n ≤ c) {k : Nat} (hk : k < l.length) :
    ∃ A', SlR w0 B 7 A' 1 ([l[k]].flatMap cR) ∧ ∀ w, (Instr.slice 23 (.slice A n c) (some (.int .i64 (k : Int))) (some (.int .i64 ((k : Int) + 1))) none).run Tryz.prog w = .ok (.slice A' 1 (c - k)) w := by
  have hl := h.lenR
  obtain ⟨j0, hj0, hz0, hz1, hz2⟩ := info_parts Tryz.infoRec
  refine ⟨if c = k then A else A.map (·.add (k * 7)), ?_, fun w => ?_⟩
  · rcases h.drop (k := k) (by omega) c with h1 | ⟨h1, h2⟩
    · have h3 := h1.upto (m := 1) (by omega)
      rw [flatR_drop, flatR_take, List.drop_eq_getElem_cons hk] at h3
      exact h3
    · omega
  · have he : Tryz.prog.elem 23 = 49 := by simp [Program.elem, Tryz.underlying23]
    have h1 : Tryz.prog.underlying 23 = some (.slice (Tryz.prog.elem 23)) := by rw [he]; exact Tryz.underlying23
    rw [run_slice_lh w 23 A n c h1 .i64 .i64 k (k + 1) (by omega) (by omega) (by omega), he]
    simp [sizeOf, typeInfo, hj0, Result.andThen, sliced, hz1]
/-- the last one, cut out as all from it on -/
theorem cut_last {w0 : World} {B n c : Nat} {A : Option Addr} {l : List Rc} (h : SlR w0 B 7 A n (l.flatMap cR)) (hnc : n ≤ c) {k : Nat} (hk : k < l.length) (hkn : k + 1 = n) :
    ∃ A', SlR w0 B 7 A' 1 ([l[k]].flatMap cR) ∧ ∀ w, (Instr.slice 23 (.slice A n c) (some (.int .i64 (k : Int))) none none).run Tryz.prog w = .ok (.slice A' 1 (c - k)) w := by
  have hl := h.lenR
  obtain ⟨j0, hj0, hz0, hz1, hz2⟩ := info_parts Tryz.infoRec
  refine ⟨if c = k then A else A.map (·.add (k * 7)), ?_, fun w => ?_⟩
  · rcases h.drop (k := k) (by omega) c with h1 | ⟨h1, h2⟩
    · have h3 := h1.upto (m := 1) (by omega)
      rw [flatR_drop, flatR_take, List.drop_eq_getElem_cons hk] at h3
      exact h3
    · omega
  · have he : Tryz.prog.elem 23 = 49 := by simp [Program.elem, Tryz.underlying23]
    have h1 : Tryz.prog.underlying 23 = some (.slice (Tryz.prog.elem 23)) := by rw [he]; exact Tryz.underlying23
    have hnk : n - k = 1 := by omega
    rw [run_slice_l w 23 A n c h1 .i64 k (by omega) (by omega), he]
    simp [sizeOf, typeInfo, hj0, Result.andThen, sliced, hz1, hnk]
end Go.Proofs.YtcfbgelhggapjaaGreatDoor
/- The plain law of ReplicaKeeps. No program here. -/
namespace Go.Proofs.YtcfbgelhggapjaaGreatDoor
theorem kp_sub {l k : List Rc} (h : VL l) (hs : ∀ r ∈ k, r ∈ l) : kpB l k = true := (kp_iff h.nd).2 hs
/-- what a law asks of a list that has one record more -/
structure OneMore (p : Int) (l a : List Rc) : Prop where
  len : a.length = l.length + 1
  kp : kpB a l = true
  vr : vrB p a = true
theorem oneMore {p : Int} {l : List Rc} {x : Rc} (hp : 0 ≤ p ∧ p ≤ 39) (hl : l.length < 150) (hv : VL (putL l x)) : OneMore p l (putL l x) :=
  ⟨len_putL l x, kp_sub hv fun r hr => mem_putL.2 (.inr hr), vr_iff.2 ⟨hp, by rw [len_putL]; omega, hv⟩⟩
theorem keeps_add {G l : List Rc} (hg : G.length ≤ 24) (h : InG G l) (hat : ∀ r ∈ G, r.at_ ≤ 96) {p : Int} (hp : 0 ≤ p ∧ p ≤ 39) {mn k : Int} (hm : 96 < mn ∧ mn ≤ 1000000) (hk : 0 ≤ k ∧ k ≤ 15) {tx : ByteArray} (ht : tx.size ≤ 4000) :
    ∃ a, addM p l ⟨0, 0, mn, -1, 0, k, tx⟩ = some a ∧ OneMore p l a := by
  have hl := h.len
  obtain ⟨e, v⟩ := adds (p := p) (x := ⟨0, 0, mn, -1, 0, k, tx⟩) hp h.vl (by omega) (by show 0 ≤ mn ∧ mn ≤ 1000000; omega) hk ht (fun r hr _ => by have := hat r (h.sub r hr); show r.at_ ≤ mn; omega) (.inl ⟨rfl, rfl⟩)
  exact ⟨_, e, oneMore hp (by omega) v⟩
theorem keeps_cor {G l : List Rc} (hg : G.length ≤ 24) (h : InG G l) (hat : ∀ r ∈ G, r.at_ ≤ 96) {p : Int} (hp : 0 ≤ p ∧ p ≤ 39) {mn k : Int} (hm : 96 < mn ∧ mn ≤ 1000000) (hk : 0 ≤ k ∧ k ≤ 15) {tx : ByteArray} (ht : tx.size ≤ 4000) {o : Rc} (ho : o ∈ l) :
    corM p l ⟨0, 0, mn, o.pen, o.num, k, tx⟩ = some (putL l (newx p l ⟨0, 0, mn, o.pen, o.num, k, tx⟩)) ∧ VL (putL l (newx p l ⟨0, 0, mn, o.pen, o.num, k, tx⟩)) ∧ OneMore p l (putL l (newx p l ⟨0, 0, mn, o.pen, o.num, k, tx⟩)) := by
  have hl := h.len
  have hfo := fm_num (h.vl.fm o ho)
  obtain ⟨e, v⟩ := adds (p := p) (x := ⟨0, 0, mn, o.pen, o.num, k, tx⟩) hp h.vl (by omega) (by show 0 ≤ mn ∧ mn ≤ 1000000; omega) hk ht (fun r hr _ => by have := hat r (h.sub r hr); show r.at_ ≤ mn; omega)
    (.inr ⟨o, ho, rfl, by have := hat o (h.sub o ho); show o.at_ < mn; omega⟩)
  refine ⟨?_, v, oneMore hp (by omega) v⟩
  unfold corM
  rw [if_neg (show ¬ (o.pen = -1 ∧ o.num = 0) by omega)]
  exact e
/-- what two pens' meeting comes to -/
structure KpM (p : Int) (r : List Rc) (q : Int) (l m mo : List Rc) : Prop where
  mrg : mrgM p r q l = some m
  beh : behM p r q l = some mo
  non : behM p m q l = some []
  k1 : kpB m r = true
  k2 : kpB m l = true
  k3 : kpB l mo = true
  len : m.length = r.length + mo.length
  no : ∀ x ∈ mo, fdI (keyR x) r < 0
  few : m.length ≤ 150
theorem keeps_mrg {G a b : List Rc} (hn : (G.map keyR).Nodup) (hg : G.length ≤ 150) (ha : InG G a) (hb : InG G b) {p q : Int} (hp : 0 ≤ p ∧ p ≤ 39) (hq : 0 ≤ q ∧ q ≤ 39) : KpM p a q b (mgL a b) (newL a b) := by
  obtain ⟨e1, e2, h⟩ := merges hn hg ha hb hp hq
  obtain ⟨_, e3, _⟩ := merges hn hg h.inn hb hp hq
  have hz : newL (mgL a b) b = [] := List.eq_nil_iff_forall_not_mem.2 fun r hr => by
    obtain ⟨h1, h2⟩ := mem_newL.1 hr
    exact h2 r ((h.mem r).2 (.inr h1)) rfl
  rw [hz] at e3
  have hl := h.inn.len
  exact ⟨e1, e2, e3, kp_sub h.inn.vl fun r hr => (h.mem r).2 (.inl hr), kp_sub h.inn.vl fun r hr => (h.mem r).2 (.inr hr), kp_sub hb.vl fun r hr => (mem_newL.1 hr).1, h.len,
    fun x hx => fdI_neg.2 (fd_none.2 (mem_newL.1 hx).2), by omega⟩
/-- all that the law of keeping asks of one pen -/
structure KpAll (L : List (List Rc)) (i : Nat) (mn : Int) (tx : ByteArray) : Prop where
  add : ∃ a, addM i L[i]! ⟨0, 0, mn, -1, 0, 3, tx⟩ = some a ∧ OneMore i L[i]! a
  cor : ∀ o ∈ L[i]!, ∃ c, corM i L[i]! ⟨0, 0, mn, o.pen, o.num, 3, tx⟩ = some c ∧ OneMore i L[i]! c
  mrg : ∀ k : Nat, k < 3 → ∃ m mo, KpM i L[i]! k L[k]! m mo
  few : (L[i]!).length ≤ 24
theorem keeps_all (xs : List I4) {i : Nat} (hi : i < 3) {mn : Int} (hm : 96 < mn ∧ mn ≤ 1000000) {tx : ByteArray} (ht : tx.size ≤ 4000) : KpAll (madL xs) i mn tx := by
  obtain ⟨G, h⟩ := mad_inv xs
  have hin : ∀ k, k < 3 → InG G (madL xs)[k]! := fun k hk => ⟨h.vl k hk, h.sub k hk⟩
  have hat : ∀ r ∈ G, r.at_ ≤ 96 := fun r hr => by have := h.at_ r hr; omega
  have hi' := hin i hi
  have hl := hi'.len
  have hf := h.few
  refine ⟨keeps_add hf hi' hat (by omega) hm (by omega) ht, fun o ho => ?_, fun k hk => ⟨_, _, keeps_mrg h.nd (by omega) hi' (hin k hk) (by omega) (by omega)⟩, by omega⟩
  obtain ⟨e, _, m⟩ := keeps_cor hf hi' hat (p := i) (by omega) hm (k := 3) (by omega) ht ho
  exact ⟨_, e, m⟩
end Go.Proofs.YtcfbgelhggapjaaGreatDoor
/- The plain law of ReplicaCorrected. No program here. -/
namespace Go.Proofs.YtcfbgelhggapjaaGreatDoor
theorem tgt_newx (p : Int) (l : List Rc) (x : Rc) : tgt (newx p l x) = (x.of, x.which) := rfl
/-- the greatest record, put in: what it changes -/
structure Cor (l c : List Rc) (x o : Rc) : Prop where
  h1 : histL l (keyR o) = some (famL l (keyR (rootR l o)))
  h2 : histL c (keyR o) = some (famL l (keyR (rootR l o)) ++ [x])
  ne : famL l (keyR (rootR l o)) ≠ []
theorem cor_hist {l : List Rc} {x o : Rc} (hl : VL l) (hv : VL (putL l x)) (hg : ∀ y ∈ l, bfB y x = true) (ho : o ∈ l) (hx : tgt x = keyR o) (hr : rootB x = false) :
    Cor l (putL l x) x o ∧ rootR (putL l x) x = rootR l o := by
  have hxm : x ∈ putL l x := mem_putL.2 (.inl rfl)
  have hom : o ∈ putL l x := mem_putL.2 (.inr ho)
  have e1 : rootR (putL l x) x = rootR (putL l x) o := root_step hv hxm hr (by rw [hx]; exact fd_mem hv.nd hom)
  have e2 : rootR (putL l x) o = rootR l o := root_sub hl hv (fun r hr => mem_putL.2 (.inr hr)) ho
  refine ⟨⟨?_, ?_, ?_⟩, e1.trans e2⟩
  · unfold histL; rw [fd_mem hl.nd ho]; rfl
  · unfold histL
    rw [fd_mem hv.nd hom, Option.map_some, e2, fam_put hv hl hg, e1, e2, if_pos rfl]
  · intro h
    have : o ∈ famL l (keyR (rootR l o)) := mem_fam.2 ⟨ho, rfl⟩
    rw [h] at this
    cases this
/-! ### what holds -/
theorem hold_fam {l : List Rc} {r y : Rc} (h : holdR l r = some y) : y ∈ famL l (keyR r) := by
  unfold holdR at h
  split at h
  · rename_i x hx
    split at h
    · cases h
    · simp only [Option.some.injEq] at h
      subst h
      exact List.mem_of_getLast? hx
  · cases h
theorem fam_root {l : List Rc} {k : I2} {y : Rc} (h : y ∈ famL l k) : keyR (rootR l y) = k := (mem_fam.1 h).2
/-- the records of a fold whose root is another one -/
def othL (l : List Rc) (k : I2) (f : List Rc) : List Rc := f.filter (fun y => decide (keyR (rootR l y) ≠ k))
theorem kp_one {l : List Rc} (hn : (l.map keyR).Nodup) {y : Rc} : kpB l [y] = decide (y ∈ l) := by
  rw [Bool.eq_iff_iff, kp_iff hn, decide_eq_true_eq]
  simp
theorem fmap_congr {f g : Rc → Option Rc} : ∀ {l : List Rc}, (∀ x ∈ l, f x = g x) → l.filterMap f = l.filterMap g
  | [], _ => rfl
  | x :: l, h => by
    have ih := fmap_congr (l := l) fun y hy => h y (.tail _ hy)
    have hx := h x (.head _)
    cases hf : f x with
    | none => rw [List.filterMap_cons_none hf, List.filterMap_cons_none (hx ▸ hf), ih]
    | some y => rw [List.filterMap_cons_some hf, List.filterMap_cons_some (hx ▸ hf), ih]
/-- the folds before and behind a correction -/
theorem fold_put {l : List Rc} {x : Rc} (hl : VL l) (hv : VL (putL l x)) (hg : ∀ y ∈ l, bfB y x = true) (hr : rootB x = false) {r : Rc} (hrm : r ∈ l) (hrr : rootB r = true) (hx : rootR (putL l x) x = r) :
    ∃ a b o, foldL l = a ++ o ++ b ∧ foldL (putL l x) = a ++ (if x.text.size = 0 then [] else [x]) ++ b ∧ (∀ y ∈ a ++ b, y ∉ famL l (keyR r) ∧ y ∉ famL l (keyR r) ++ [x]) ∧ (∀ y ∈ o, y ∈ famL l (keyR r)) := by
  have hroots : (ordL (putL l x)).filter rootB = (ordL l).filter rootB := by
    rw [ord_put hv hl hg, List.filter_append, List.filter_cons_of_neg (by rw [hr]; decide), List.filter_nil, List.append_nil]
  have hmr : r ∈ (ordL l).filter rootB := List.mem_filter.2 ⟨mem_ord.2 hrm, hrr⟩
  have hnd : (((ordL l).filter rootB).map keyR).Nodup := nd_filter _ (ord_nd hl.nd)
  obtain ⟨p, q, e⟩ := List.append_of_mem hmr
  have hne : ∀ s, s ∈ p ++ q → s ∈ l ∧ rootB s = true ∧ keyR s ≠ keyR r := fun s hs => by
    have hsm : s ∈ (ordL l).filter rootB := by
      rw [e]
      rcases List.mem_append.1 hs with h | h
      · exact List.mem_append_left _ h
      · exact List.mem_append_right _ (.tail _ h)
    obtain ⟨s1, s2⟩ := List.mem_filter.1 hsm
    refine ⟨mem_ord.1 s1, s2, fun hk => ?_⟩
    rw [e, List.map_append, List.map_cons, List.nodup_append, List.nodup_cons] at hnd
    rcases List.mem_append.1 hs with h | h
    · exact hnd.2.2 _ (List.mem_map_of_mem h) _ (.head _) hk
    · exact hnd.2.1.1 (by rw [← hk]; exact List.mem_map_of_mem h)
  have hh : ∀ s, s ∈ p ++ q → holdR (putL l x) s = holdR l s := fun s hs => by
    unfold holdR
    rw [fam_put hv hl hg, hx, if_neg (fun h => (hne s hs).2.2 h.symm), List.append_nil]
  have hxh : holdR (putL l x) r = if x.text.size = 0 then none else some x := by
    unfold holdR
    rw [fam_put hv hl hg, hx, if_pos rfl, List.getLast?_append]
    simp only [List.getLast?_singleton, Option.some_or]
  refine ⟨p.filterMap (holdR l), q.filterMap (holdR l), (match holdR l r with | some y => [y] | none => []), ?_, ?_, fun y hy => ?_, fun y hy => ?_⟩
  · unfold foldL
    rw [e, List.filterMap_append, List.append_assoc]
    congr 1
    cases h : holdR l r with
    | none => rw [List.filterMap_cons_none h]; rfl
    | some y => rw [List.filterMap_cons_some h]; rfl
  · unfold foldL
    rw [hroots, e, List.filterMap_append, List.append_assoc]
    have c1 : p.filterMap (holdR (putL l x)) = p.filterMap (holdR l) := fmap_congr fun s hs => hh s (List.mem_append_left _ hs)
    have c2 : q.filterMap (holdR (putL l x)) = q.filterMap (holdR l) := fmap_congr fun s hs => hh s (List.mem_append_right _ hs)
    rw [c1]
    congr 1
    by_cases hz : x.text.size = 0
    · rw [if_pos hz] at hxh ⊢
      rw [List.filterMap_cons_none hxh, c2]; rfl
    · rw [if_neg hz] at hxh ⊢
      rw [List.filterMap_cons_some hxh, c2]; rfl
  · obtain ⟨s, hs, hq⟩ : ∃ s, s ∈ p ++ q ∧ holdR l s = some y := by
      rcases List.mem_append.1 hy with h | h
      · obtain ⟨s, h1, h2⟩ := List.mem_filterMap.1 h; exact ⟨s, List.mem_append_left _ h1, h2⟩
      · obtain ⟨s, h1, h2⟩ := List.mem_filterMap.1 h; exact ⟨s, List.mem_append_right _ h1, h2⟩
    have hy' := hold_fam hq
    have hno : y ∉ famL l (keyR r) := fun h => (hne s hs).2.2 ((fam_root hy').symm.trans (fam_root h))
    refine ⟨hno, fun h => ?_⟩
    rcases List.mem_append.1 h with h | h
    · exact hno h
    · rw [List.mem_singleton] at h
      subst h
      have := hg y (mem_fam.1 hy').1
      rw [bf_irr] at this; cases this
  · cases h : holdR l r with
    | none => rw [h] at hy; cases hy
    | some z =>
      rw [h] at hy
      simp only [List.mem_singleton] at hy
      subst hy
      exact hold_fam h
theorem fam_nd {l : List Rc} (h : VL l) (k : I2) : ((famL l k).map keyR).Nodup := nd_filter _ (ord_nd h.nd)
def inK (k : List Rc) (y : Rc) : Bool := kpB k [y]
/-- all that the law of correcting asks -/
structure CorAll (l : List Rc) (o : Rc) (mn : Int) (tx : ByteArray) (c bef : List Rc) (x : Rc) : Prop where
  cor : corM 0 l ⟨0, 0, mn, o.pen, o.num, 7, tx⟩ = some c
  v0 : vrB 0 l = true
  v1 : vrB 0 c = true
  h1 : histL l (keyR o) = some bef
  h2 : histL c (keyR o) = some (bef ++ [x])
  ne : 0 < bef.length
  fields : x.text = tx ∧ x.of = o.pen ∧ x.which = o.num ∧ x.pen = 0 ∧ x.kind = 7
  last : ∀ y ∈ foldL c, inK (bef ++ [x]) y = true → y = x
  same : (foldL l).filter (fun y => !inK bef y) = (foldL c).filter (fun y => !inK (bef ++ [x]) y)
  held : (foldL c).countP (inK (bef ++ [x])) = if tx.size = 0 then 0 else 1
theorem cor_all {G l : List Rc} (hg : G.length ≤ 24) (h : InG G l) (hat : ∀ r ∈ G, r.at_ ≤ 96) {mn : Int} (hm : 96 < mn ∧ mn ≤ 1000000) {tx : ByteArray} (ht : tx.size ≤ 4000) {o : Rc} (ho : o ∈ l) : ∃ c bef x, CorAll l o mn tx c bef x := by
  obtain ⟨e, v, om⟩ := keeps_cor hg h hat (p := 0) (by omega) hm (k := 7) (by omega) ht ho
  have hfo := fm_num (h.vl.fm o ho)
  have hl := h.len
  obtain ⟨x, hx⟩ : ∃ x, newx 0 l ⟨0, 0, mn, o.pen, o.num, 7, tx⟩ = x := ⟨_, rfl⟩
  have ft : tgt x = keyR o := by rw [← hx]; rfl
  have fr : rootB x = false := by
    rw [← hx]
    show (decide (o.pen = -1) && decide (o.num = 0)) = false
    rw [decide_eq_false (by omega)]; rfl
  have fat : x.at_ = mn := by rw [← hx]; rfl
  have ff : x.text = tx ∧ x.of = o.pen ∧ x.which = o.num ∧ x.pen = 0 ∧ x.kind = 7 := by rw [← hx]; exact ⟨rfl, rfl, rfl, rfl, rfl⟩
  rw [hx] at e v om
  have hgt : ∀ y ∈ l, bfB y x = true := fun y hy => bf_iff.2 (.inl (by have := hat y (h.sub y hy); omega))
  obtain ⟨hc, hrx⟩ := cor_hist h.vl v hgt ho ft fr
  obtain ⟨a, b, u, e1, e2, e3, e4⟩ := fold_put h.vl v hgt fr (root_mem h.vl ho) (root_root h.vl ho) hrx
  have hn1 := fam_nd h.vl (keyR (rootR l o))
  have hn2 : ((famL l (keyR (rootR l o)) ++ [x]).map keyR).Nodup := by
    have := fam_nd v (keyR (rootR l o))
    rwa [fam_put v h.vl hgt, hrx, if_pos rfl] at this
  obtain ⟨bef, hbef⟩ : ∃ b, famL l (keyR (rootR l o)) = b := ⟨_, rfl⟩
  have hc1 := hc.h1; have hc2 := hc.h2; have hc3 := hc.ne
  rw [hbef] at hn1 hn2 e3 e4 hc1 hc2 hc3
  have k1 : ∀ y, inK bef y = decide (y ∈ bef) := fun y => kp_one hn1
  have k2 : ∀ y, inK (bef ++ [x]) y = decide (y ∈ bef ++ [x]) := fun y => kp_one hn2
  have hxb : x ∈ bef ++ [x] := List.mem_append_right _ (.head _)
  refine ⟨putL l x, bef, x, e, h.vr (by omega) (by omega) (by omega), om.vr, hc1, hc2, List.length_pos_iff.2 hc3, ff, fun y hy hin => ?_, ?_, ?_⟩
  · rw [k2, decide_eq_true_eq] at hin
    rw [e2] at hy
    rcases List.mem_append.1 hy with hy | hy
    · rcases List.mem_append.1 hy with hy | hy
      · exact absurd hin (e3 y (List.mem_append_left _ hy)).2
      · split at hy
        · cases hy
        · exact List.mem_singleton.1 hy
    · exact absurd hin (e3 y (List.mem_append_right _ hy)).2
  · have f1 : ∀ s : List Rc, (∀ y ∈ s, y ∈ a ++ b) → s.filter (fun y => !inK bef y) = s := fun s hs => List.filter_eq_self.2 fun y hy => by rw [k1, decide_eq_false (e3 y (hs y hy)).1]; rfl
    have f2 : ∀ s : List Rc, (∀ y ∈ s, y ∈ a ++ b) → s.filter (fun y => !inK (bef ++ [x]) y) = s := fun s hs => List.filter_eq_self.2 fun y hy => by rw [k2, decide_eq_false (e3 y (hs y hy)).2]; rfl
    have g1 : u.filter (fun y => !inK bef y) = [] := List.filter_eq_nil_iff.2 fun y hy => by rw [k1, decide_eq_true (e4 y hy)]; decide
    have g2 : (if x.text.size = 0 then [] else [x]).filter (fun y => !inK (bef ++ [x]) y) = [] := List.filter_eq_nil_iff.2 fun y hy => by
      have : y = x := by
        split at hy
        · cases hy
        · exact List.mem_singleton.1 hy
      rw [this, k2, decide_eq_true hxb]; decide
    rw [e1, e2]
    simp only [List.filter_append]
    rw [f1 a (fun y hy => List.mem_append_left _ hy), f1 b (fun y hy => List.mem_append_right _ hy), f2 a (fun y hy => List.mem_append_left _ hy), f2 b (fun y hy => List.mem_append_right _ hy), g1, g2]
  · have z : ∀ s : List Rc, (∀ y ∈ s, y ∈ a ++ b) → s.countP (inK (bef ++ [x])) = 0 := fun s hs => List.countP_eq_zero.2 fun y hy => by rw [k2, decide_eq_false (e3 y (hs y hy)).2]; decide
    rw [e2, List.countP_append, List.countP_append, z a (fun y hy => List.mem_append_left _ hy), z b (fun y hy => List.mem_append_right _ hy), ← ff.1]
    by_cases h0 : x.text.size = 0
    · rw [if_pos h0, if_pos h0]; rfl
    · rw [if_neg h0, if_neg h0, List.countP_cons_of_pos (by rw [k2]; exact decide_eq_true hxb)]; rfl
theorem cor_mad (xs : List I4) {mn : Int} (hm : 96 < mn ∧ mn ≤ 1000000) {tx : ByteArray} (ht : tx.size ≤ 4000) {o : Rc} (ho : o ∈ (madL xs)[0]!) : ((madL xs)[0]!).length ≤ 24 ∧ ∃ c bef x, CorAll (madL xs)[0]! o mn tx c bef x := by
  obtain ⟨G, h⟩ := mad_inv xs
  have hi : InG G (madL xs)[0]! := ⟨h.vl 0 (by omega), h.sub 0 (by omega)⟩
  exact ⟨by have := hi.len; have := h.few; omega, cor_all h.few hi (fun r hr => by have := h.at_ r hr; omega) hm ht ho⟩
end Go.Proofs.YtcfbgelhggapjaaGreatDoor
/- The plain law of ReplicaHistories. No program here. -/
namespace Go.Proofs.YtcfbgelhggapjaaGreatDoor
theorem sum_swap {α β : Type} (p : α → β → Bool) (r : List β) : ∀ (R : List α), (R.map (fun x => r.countP (p x))).sum = (r.map (fun y => R.countP (fun x => p x y))).sum
  | [] => by
    have : (r.map (fun y => ([] : List α).countP (fun x => p x y))) = r.map (fun _ => 0) := List.map_congr_left fun y _ => rfl
    rw [this]
    clear this
    induction r with
    | nil => rfl
    | cons y r ih => simpa using ih
  | x :: R => by
    rw [List.map_cons, List.sum_cons, sum_swap p r R]
    have : (r.map (fun y => (x :: R).countP (fun x => p x y))) = r.map (fun y => R.countP (fun x => p x y) + if p x y then 1 else 0) := List.map_congr_left fun y _ => by rw [List.countP_cons]
    rw [this]
    clear this
    induction r with
    | nil => rfl
    | cons y r ih =>
      simp only [List.countP_cons, List.map_cons, List.sum_cons] at ih ⊢
      omega
theorem sum_ones {β : Type} {f : β → Nat} : ∀ {r : List β}, (∀ y ∈ r, f y = 1) → (r.map f).sum = r.length
  | [], _ => rfl
  | y :: r, h => by
    have ih := sum_ones (f := f) (r := r) fun z hz => h z (.tail _ hz)
    rw [List.map_cons, List.sum_cons, h y (.head _), ih, List.length_cons]; omega
/-- how many records the families of the roots in s have -/
def manyF (r s : List Rc) : Nat := ((s.filter rootB).map (fun x => (famL r (keyR x)).length)).sum
theorem manyF_snoc (r s : List Rc) (x : Rc) : manyF r (s ++ [x]) = manyF r s + if rootB x then (famL r (keyR x)).length else 0 := by
  unfold manyF
  rw [List.filter_append]
  by_cases h : rootB x = true
  · rw [List.filter_cons_of_pos h, List.filter_nil, List.map_append, List.sum_append, if_pos h]; simp
  · rw [List.filter_cons_of_neg h, List.filter_nil, List.append_nil, if_neg h]; rfl
/-- of how many roots in s something holds -/
def holdF (r s : List Rc) : Nat := s.countP (fun x => rootB x && (holdR r x).isSome)
theorem holdF_snoc (r s : List Rc) (x : Rc) : holdF r (s ++ [x]) = holdF r s + if rootB x && (holdR r x).isSome then 1 else 0 := by
  unfold holdF
  rw [List.countP_append, List.countP_cons, List.countP_nil]
  omega
theorem one_root {l : List Rc} (hn : (l.map keyR).Nodup) {r : Rc} (hr : r ∈ l) : l.countP (fun x => decide (keyR r = keyR x)) = 1 := by
  induction l with
  | nil => cases hr
  | cons x l ih =>
    rw [List.map_cons, List.nodup_cons] at hn
    rw [List.countP_cons]
    rcases List.mem_cons.1 hr with rfl | h
    · rw [if_pos (by simp), List.countP_eq_zero.2 (fun y hy => ?_)]
      intro e
      exact hn.1 (by rw [of_decide_eq_true e]; exact List.mem_map_of_mem hy)
    · rw [ih hn.2 h, if_neg]
      intro e
      exact hn.1 (by rw [← of_decide_eq_true e]; exact List.mem_map_of_mem h)
theorem many_all {r : List Rc} (h : VL r) : manyF r r = r.length := by
  have hl : ∀ k, (famL r k).length = r.countP (fun y => decide (keyR (rootR r y) = k)) := fun k => by
    unfold famL
    rw [← List.countP_eq_length_filter]
    exact (ord_perm r).countP_eq _
  unfold manyF
  rw [show (r.filter rootB).map (fun x => (famL r (keyR x)).length) = (r.filter rootB).map (fun x => r.countP (fun y => decide (keyR (rootR r y) = keyR x))) from List.map_congr_left fun x _ => hl _, sum_swap (fun x y => decide (keyR (rootR r y) = keyR x))]
  refine sum_ones fun y hy => ?_
  exact one_root (nd_filter rootB h.nd) (List.mem_filter.2 ⟨root_mem h hy, root_root h hy⟩)
theorem hold_all (r : List Rc) : holdF r r = (foldL r).length := by
  unfold holdF foldL
  rw [List.length_filterMap_eq_countP, List.countP_filter]
  refine ((ord_perm r).countP_eq _).symm.trans ?_
  exact List.countP_congr fun x _ => by rw [Bool.and_comm]
theorem fold_sub {r : List Rc} {y : Rc} (hy : y ∈ foldL r) : y ∈ r ∧ ¬ y.text.size = 0 := by
  unfold foldL at hy
  obtain ⟨s, hs, e⟩ := List.mem_filterMap.1 hy
  refine ⟨(mem_fam.1 (hold_fam e)).1, ?_⟩
  unfold holdR at e
  split at e
  · split at e
    · cases e
    · rename_i h
      simp only [Option.some.injEq] at e
      subst e; exact h
  · cases e
theorem kp_fold {r : List Rc} (h : VL r) {y : Rc} (hy : y ∈ r) : kpB (foldL r) [y] = decide (y ∈ foldL r) := by
  by_cases hm : y ∈ foldL r
  · rw [decide_eq_true hm]
    refine kp_of fun z hz => ?_
    rw [List.mem_singleton] at hz
    subst hz
    cases hq : fdR (keyR z) (foldL r) with
    | none => exact absurd rfl (fd_none.1 hq z hm)
    | some s =>
      obtain ⟨h1, h2⟩ := fd_some hq
      rw [key_eq h.nd (fold_sub h1).1 hy h2]
  · rw [decide_eq_false hm]
    exact kp_no (.head _) fun e => hm (fd_some e).1
/-- what the law of histories asks of one record -/
structure HistOk (r : List Rc) (x : Rc) (h : List Rc) : Prop where
  hist : histL r (keyR x) = some h
  pos : 0 < h.length
  few : h.length ≤ r.length
  k1 : kpB h [x] = true
  k2 : kpB r h = true
  head : ∀ (hp : 0 < h.length), (h[0]'hp).of = -1
  next : ∀ (k : Nat) (h1 : 0 < k) (hk : k < h.length), 0 ≤ (h[k]'hk).of ∧ bfB (h[k]'hk) (h[k - 1]'(by omega)) = false ∧ kpB (h.take k) [ofR h (h[k]'hk)] = true
  root : rootB x = true → h = famL r (keyR x) ∧ ∀ (hk : h.length - 1 < h.length), kpB (foldL r) [h[h.length - 1]'hk] = decide (¬ (h[h.length - 1]'hk).text.size = 0) ∧ (holdR r x).isSome = decide (¬ (h[h.length - 1]'hk).text.size = 0)
  of : rootB x = decide (x.of < 0)
theorem ofB_root {r : List Rc} (h : VL r) {x : Rc} (hx : x ∈ r) : rootB x = decide (x.of < 0) := by
  rcases fm_tgt (h.fm x hx) with e | ⟨e, h1, _⟩
  · rw [e]
    have : x.of = -1 := by unfold rootB at e; simp at e; exact e.1
    rw [this]; rfl
  · rw [e, decide_eq_false (by omega)]
theorem hist_ok {r : List Rc} (h : VL r) {x : Rc} (hx : x ∈ r) : HistOk r x (famL r (keyR (rootR r x))) := by
  have hrm := root_mem h hx
  have hrr := root_root h hx
  obtain ⟨t, ht⟩ := fam_head h hrm hrr
  obtain ⟨K, hK⟩ : ∃ K, keyR (rootR r x) = K := ⟨_, rfl⟩
  have hxm : x ∈ famL r K := mem_fam.2 ⟨hx, hK⟩
  have hnd := fam_nd h K
  have hs := fam_srt h K
  rw [hK] at ht
  rw [hK]
  have hfew : (famL r K).length ≤ r.length := by
    unfold famL
    exact Nat.le_trans (List.length_filter_le _ _) (by rw [(ord_perm r).length_eq]; exact Nat.le_refl _)
  have hhead : ∀ (hp : 0 < (famL r K).length), (famL r K)[0]'hp = rootR r x := fun hp => by simp only [ht, List.getElem_cons_zero]
  refine ⟨?_, List.length_pos_of_mem hxm, hfew, (kp_iff hnd).2 (fun z hz => by rw [List.mem_singleton] at hz; rw [hz]; exact hxm), (kp_iff h.nd).2 (fun z hz => (mem_fam.1 hz).1), fun hp => ?_, fun k h1 hk => ?_, fun hb => ?_, ofB_root h hx⟩
  · unfold histL; rw [fd_mem h.nd hx, Option.map_some, hK]
  · rw [hhead hp]
    have := ofB_root h hrm
    rw [hrr] at this
    unfold rootB at hrr
    simp at hrr
    exact hrr.1
  · obtain ⟨y, hy⟩ : ∃ y, (famL r K)[k]'hk = y := ⟨_, rfl⟩
    have hym : y ∈ famL r K := by rw [← hy]; exact List.getElem_mem hk
    have hyr := (mem_fam.1 hym).1
    have hny : rootB y = false := by
      cases hb : rootB y with
      | false => rfl
      | true =>
        exfalso
        have e1 := fam_root hym
        rw [root_self hb] at e1
        have hlt := (pw_iff.1 hs) 0 k (by omega) hk h1
        rw [hhead (by omega), hy] at hlt
        have := key_eq h.nd hyr hrm (e1.trans hK.symm)
        rw [this, bf_irr] at hlt; cases hlt
    rw [hy]
    have hof := ofB_root h hyr
    rw [hny] at hof
    have hof' := of_decide_eq_false hof.symm
    refine ⟨by omega, ?_, ?_⟩
    · have := (pw_iff.1 hs) (k - 1) k (by omega) hk (by omega)
      rw [hy] at this
      exact bf_asym this
    · obtain ⟨o, ho, _, ok, ob⟩ := h.tgt hyr hny
      have hom : o ∈ famL r K := mem_fam.2 ⟨ho, by
        rw [← root_step h hyr hny ((fd_iff h.nd).2 ⟨ho, ok⟩)]; exact fam_root hym⟩
      have e : ofR (famL r K) y = o := by
        unfold ofR
        rw [show fdR (tgt y) (famL r K) = some o from (fd_iff hnd).2 ⟨hom, ok⟩]
        try rfl
      rw [e]
      obtain ⟨j, hj, hje⟩ := List.getElem_of_mem hom
      have hjk : j < k := by
        rcases Nat.lt_trichotomy j k with g | g | g
        · exact g
        · subst g; rw [hje] at hy; rw [hy, bf_irr] at ob; cases ob
        · have := (pw_iff.1 hs) k j hk hj g
          rw [hy, hje] at this
          rw [bf_asym this] at ob; cases ob
      refine (kp_iff (hnd.sublist ((List.take_sublist k _).map _))).2 fun z hz => ?_
      rw [List.mem_singleton] at hz
      rw [hz, ← hje]
      exact List.mem_take_iff_getElem.2 ⟨j, by omega, rfl⟩
  · have hxx : rootR r x = x := root_self hb
    rw [hxx] at hK
    refine ⟨by rw [hK], fun hk => ?_⟩
    obtain ⟨z, hz⟩ : ∃ z, (famL r K)[(famL r K).length - 1]'hk = z := ⟨_, rfl⟩
    have hzl : (famL r K).getLast? = some z := by rw [List.getLast?_eq_getElem?, List.getElem?_eq_getElem hk, hz]
    have hzm : z ∈ famL r K := by rw [← hz]; exact List.getElem_mem hk
    have hh : holdR r x = if z.text.size = 0 then none else some z := by
      unfold holdR
      rw [hK, hzl]
    rw [hz, kp_fold h (mem_fam.1 hzm).1]
    by_cases h0 : z.text.size = 0
    · rw [if_pos h0] at hh
      rw [hh]
      have : z ∉ foldL r := fun hm => (fold_sub hm).2 h0
      simp [this, h0]
    · rw [if_neg h0] at hh
      rw [hh]
      have : z ∈ foldL r := by
        unfold foldL
        exact List.mem_filterMap.2 ⟨x, List.mem_filter.2 ⟨mem_ord.2 hx, hb⟩, hh⟩
      simp [this, h0]
/-- all that the law of histories asks -/
theorem hist_mad (xs : List I4) : ∃ r, mrgM 0 (madL xs)[0]! 1 (madL xs)[1]! = some r ∧ VL r ∧ r.length ≤ 24 ∧ vrB 0 r = true ∧ ((madL xs)[0]!).length ≤ 24 ∧ ((madL xs)[1]!).length ≤ 24 := by
  obtain ⟨G, h⟩ := mad_inv xs
  have hin : ∀ k, k < 3 → InG G (madL xs)[k]! := fun k hk => ⟨h.vl k hk, h.sub k hk⟩
  have hf := h.few
  obtain ⟨e1, _, g⟩ := merges h.nd (by omega) (hin 0 (by omega)) (hin 1 (by omega)) (p := 0) (q := 1) (by omega) (by omega)
  have h1 := g.inn.len
  have h2 := (hin 0 (by omega)).len
  have h3 := (hin 1 (by omega)).len
  exact ⟨_, e1, g.inn.vl, by omega, g.inn.vr (by omega) (by omega) (by omega), by omega, by omega⟩
end Go.Proofs.YtcfbgelhggapjaaGreatDoor
/- The plain law of ReplicaOrder. No program here. -/
namespace Go.Proofs.YtcfbgelhggapjaaGreatDoor
/-- three lists inside one, and what they have met of the first three -/
structure OI (G : List Rc) (B : List (List Rc)) (m k : Nat) (L : List (List Rc)) : Prop where
  len : L.length = 3
  inn : ∀ j, j < 3 → InG G L[j]!
  base : ∀ j, j < 3 → ∀ r ∈ B[j]!, r ∈ L[j]!
  z1 : m = 0 → 1 ≤ k → ∀ j, j < 2 → ∀ r, (r ∈ B[0]! ∨ r ∈ B[1]!) → r ∈ L[j]!
  z2 : m = 0 → 2 ≤ k → ∀ j, 1 ≤ j → j < 3 → ∀ r, (r ∈ B[0]! ∨ r ∈ B[1]! ∨ r ∈ B[2]!) → r ∈ L[j]!
  z3 : m = 0 → 3 ≤ k → ∀ r, (r ∈ B[0]! ∨ r ∈ B[1]! ∨ r ∈ B[2]!) → r ∈ L[0]!
/-- one meeting of the three -/
theorem OI.meet {G : List Rc} {L : List (List Rc)} (hn : (G.map keyR).Nodup) (hg : G.length ≤ 150) (hl : L.length = 3) (hi : ∀ j, j < 3 → InG G L[j]!) {a b : Nat} (ha : a < 3) (hb : b < 3) :
    mrgM a L[a]! b L[b]! = some (mgL L[a]! L[b]!) ∧ (L.set a (mgL L[a]! L[b]!)).length = 3 ∧ (∀ j, j < 3 → InG G (L.set a (mgL L[a]! L[b]!))[j]!) ∧
    (∀ j, j < 3 → ∀ r ∈ L[j]!, r ∈ (L.set a (mgL L[a]! L[b]!))[j]!) ∧ (∀ r ∈ L[b]!, r ∈ (L.set a (mgL L[a]! L[b]!))[a]!) := by
  obtain ⟨e, _, h⟩ := merges (p := a) (q := b) hn hg (hi a ha) (hi b hb) (by omega) (by omega)
  have hs : ∀ j, (L.set a (mgL L[a]! L[b]!))[j]! = if j = a then mgL L[a]! L[b]! else L[j]! := fun j => set_get (by omega)
  refine ⟨e, by rw [List.length_set]; exact hl, fun j hj => ?_, fun j hj r hr => ?_, fun r hr => ?_⟩
  · rw [hs]; by_cases hja : j = a
    · rw [if_pos hja]; exact h.inn
    · rw [if_neg hja]; exact hi j hj
  · rw [hs]; by_cases hja : j = a
    · rw [if_pos hja]; subst hja; exact (h.mem r).2 (.inl hr)
    · rw [if_neg hja]; exact hr
  · rw [hs, if_pos rfl]; exact (h.mem r).2 (.inr hr)
theorem OI.step {G : List Rc} {B L : List (List Rc)} {m k : Nat} (hn : (G.map keyR).Nodup) (hg : G.length ≤ 24) (o : OI G B m k L) {a b : Nat} (ha : a < 3) (hb : b < 3) (hab : m ≤ k → a = k % 3 ∧ b = (k + 1) % 3) :
    ∃ m1 m2, mrgM a L[a]! b L[b]! = some m1 ∧ m1.length ≤ 24 ∧ (k < m → OI G B m (k + 1) (L.set a m1)) ∧ mrgM b (L.set a m1)[b]! a (L.set a m1)[a]! = some m2 ∧ m2.length ≤ 24 ∧ OI G B m (k + 1) ((L.set a m1).set b m2) := by
  obtain ⟨e1, l1, i1, k1, n1⟩ := OI.meet hn (by omega) o.len o.inn ha hb
  obtain ⟨e2, l2, i2, k2, n2⟩ := OI.meet hn (by omega) l1 i1 hb ha
  have g1 := (i1 a ha).len
  rw [set_get (by rw [o.len]; exact ha), if_pos rfl] at g1
  have g2 := (i2 b hb).len
  rw [set_get (by rw [l1]; exact hb), if_pos rfl] at g2
  generalize mgL L[a]! L[b]! = m1 at *
  generalize mgL (L.set a m1)[b]! (L.set a m1)[a]! = m2 at *
  have k3 : ∀ j, j < 3 → ∀ r ∈ L[j]!, r ∈ ((L.set a m1).set b m2)[j]! := fun j hj r hr => k2 j hj r (k1 j hj r hr)
  have hA : ∀ r, (r ∈ L[a]! ∨ r ∈ L[b]!) → r ∈ ((L.set a m1).set b m2)[a]! := fun r hr => k2 a ha r (hr.elim (k1 a ha r) (n1 r))
  have hB : ∀ r, (r ∈ L[a]! ∨ r ∈ L[b]!) → r ∈ ((L.set a m1).set b m2)[b]! := fun r hr => n2 r (hr.elim (k1 a ha r) (n1 r))
  refine ⟨m1, m2, e1, by omega, fun hk => ⟨l1, i1, fun j hj r hr => k1 j hj r (o.base j hj r hr), by omega, by omega, by omega⟩, e2, by omega, ⟨l2, i2, fun j hj r hr => k3 j hj r (o.base j hj r hr), fun hm hk j hj r hr => ?_, fun hm hk j hj1 hj r hr => ?_, fun hm hk r hr => ?_⟩⟩
  · by_cases h1 : 1 ≤ k
    · exact k3 j (by omega) r (o.z1 hm h1 j hj r hr)
    · obtain ⟨ea, eb⟩ := hab (by omega)
      obtain rfl : k = 0 := by omega
      subst ea eb
      have hr' : r ∈ L[0 % 3]! ∨ r ∈ L[(0 + 1) % 3]! := hr.elim (fun h => .inl (o.base 0 (by omega) r h)) (fun h => .inr (o.base 1 (by omega) r h))
      rcases (show j = 0 ∨ j = 1 by omega) with rfl | rfl
      · exact hA r hr'
      · exact hB r hr'
  · by_cases h1 : 2 ≤ k
    · exact k3 j hj r (o.z2 hm h1 j hj1 hj r hr)
    · obtain ⟨ea, eb⟩ := hab (by omega)
      obtain rfl : k = 1 := by omega
      subst ea eb
      have hr' : r ∈ L[1 % 3]! ∨ r ∈ L[(1 + 1) % 3]! := by
        rcases hr with h | h | h
        · exact .inl (o.z1 hm (by omega) 1 (by omega) r (.inl h))
        · exact .inl (o.z1 hm (by omega) 1 (by omega) r (.inr h))
        · exact .inr (o.base 2 (by omega) r h)
      rcases (show j = 1 ∨ j = 2 by omega) with rfl | rfl
      · exact hA r hr'
      · exact hB r hr'
  · by_cases h1 : 3 ≤ k
    · exact k3 0 (by omega) r (o.z3 hm h1 r hr)
    · obtain ⟨ea, eb⟩ := hab (by omega)
      obtain rfl : k = 2 := by omega
      subst ea eb
      exact hB r (.inl (o.z2 hm (by omega) 2 (by omega) (by omega) r hr))
/-- all that the law of order asks, ahead of the meetings and behind them -/
structure OrdAll (B : List (List Rc)) (ab bc lf : List Rc) : Prop where
  e1 : mrgM 0 B[0]! 1 B[1]! = some ab
  e2 : mrgM 1 B[1]! 0 B[0]! = some ab
  e3 : mrgM 1 B[1]! 2 B[2]! = some bc
  e4 : mrgM 0 ab 2 B[2]! = some lf
  e5 : mrgM 0 B[0]! 1 bc = some lf
  e6 : mrgM 0 lf 1 bc = some lf
  vl : VL lf
  few : lf.length ≤ 24
  fab : ab.length ≤ 24
  fbc : bc.length ≤ 24
  fB : ∀ j, j < 3 → (B[j]!).length ≤ 24
  oi : ∀ m, OI lf B m 0 B
  mem : ∀ r, r ∈ lf ↔ r ∈ B[0]! ∨ r ∈ B[1]! ∨ r ∈ B[2]!
theorem OrdAll.vr {B : List (List Rc)} {ab bc lf : List Rc} (h : OrdAll B ab bc lf) {p : Int} (hp : 0 ≤ p ∧ p ≤ 39) : vrB p lf = true := vr_iff.2 ⟨hp, by have := h.few; omega, h.vl⟩
theorem OrdAll.step {B L : List (List Rc)} {ab bc lf : List Rc} {m k : Nat} (h : OrdAll B ab bc lf) (o : OI lf B m k L) {a b : Nat} (ha : a < 3) (hb : b < 3) (hab : m ≤ k → a = k % 3 ∧ b = (k + 1) % 3) :
    ∃ m1 m2, mrgM a L[a]! b L[b]! = some m1 ∧ m1.length ≤ 24 ∧ (k < m → OI lf B m (k + 1) (L.set a m1)) ∧ mrgM b (L.set a m1)[b]! a (L.set a m1)[a]! = some m2 ∧ m2.length ≤ 24 ∧ OI lf B m (k + 1) ((L.set a m1).set b m2) :=
  OI.step h.vl.nd h.few o ha hb hab
theorem OrdAll.fin {B L : List (List Rc)} {ab bc lf : List Rc} {m k : Nat} (h : OrdAll B ab bc lf) (o : OI lf B m k L) {j : Nat} (hj : j < 3) : mrgM j L[j]! 0 lf = some lf ∧ (L[j]!).length ≤ 24 ∧ (m = 0 → 3 ≤ k → L[j]! = lf) := by
  have hs : InG lf lf := ⟨h.vl, fun r hr => hr⟩
  obtain ⟨e, _, g⟩ := merges (p := j) (q := 0) h.vl.nd (by have := h.few; omega) (o.inn j hj) hs (by omega) (by omega)
  have hm : mgL L[j]! lf = lf := vl_same g.inn.vl h.vl fun r => ⟨fun hr => g.inn.sub r hr, fun hr => (g.mem r).2 (.inr hr)⟩
  rw [hm] at e
  refine ⟨e, by have := (o.inn j hj).len; have := h.few; omega, fun h0 hk => vl_same (o.inn j hj).vl h.vl fun r => ⟨fun hr => (o.inn j hj).sub r hr, fun hr => ?_⟩⟩
  have hr' := (h.mem r).1 hr
  rcases (show j = 0 ∨ 1 ≤ j by omega) with rfl | h1
  · exact o.z3 h0 hk r hr'
  · exact o.z2 h0 (by omega) j h1 hj r hr'
theorem ord_mad (xs : List I4) : ∃ ab bc lf, OrdAll (madL xs) ab bc lf := by
  obtain ⟨G, h⟩ := mad_inv xs
  have hin : ∀ k, k < 3 → InG G (madL xs)[k]! := fun k hk => ⟨h.vl k hk, h.sub k hk⟩
  have hf := h.few
  have hg : G.length ≤ 150 := by omega
  have hlen : (madL xs).length = 3 := h.len
  obtain ⟨e1, _, m1⟩ := merges (p := 0) (q := 1) h.nd hg (hin 0 (by omega)) (hin 1 (by omega)) (by omega) (by omega)
  obtain ⟨e2, _, m2⟩ := merges (p := 1) (q := 0) h.nd hg (hin 1 (by omega)) (hin 0 (by omega)) (by omega) (by omega)
  obtain ⟨e3, _, m3⟩ := merges (p := 1) (q := 2) h.nd hg (hin 1 (by omega)) (hin 2 (by omega)) (by omega) (by omega)
  generalize madL xs = B at *
  generalize mgL B[0]! B[1]! = ab at *
  generalize mgL B[1]! B[0]! = ba at *
  generalize mgL B[1]! B[2]! = bc at *
  obtain ⟨e4, _, m4⟩ := merges (p := 0) (q := 2) h.nd hg m1.inn (hin 2 (by omega)) (by omega) (by omega)
  obtain ⟨e5, _, m5⟩ := merges (p := 0) (q := 1) h.nd hg (hin 0 (by omega)) m3.inn (by omega) (by omega)
  generalize mgL ab B[2]! = lf at *
  generalize mgL B[0]! bc = rt at *
  obtain ⟨e6, _, m6⟩ := merges (p := 0) (q := 1) h.nd hg m4.inn m3.inn (by omega) (by omega)
  generalize mgL lf bc = ag at *
  have hmem : ∀ r, r ∈ lf ↔ r ∈ B[0]! ∨ r ∈ B[1]! ∨ r ∈ B[2]! := fun r => by rw [m4.mem, m1.mem, or_assoc]
  obtain rfl : ba = ab := vl_same m2.inn.vl m1.inn.vl fun r => by rw [m2.mem, m1.mem, or_comm]
  obtain rfl : rt = lf := vl_same m5.inn.vl m4.inn.vl fun r => by rw [m5.mem, m3.mem, hmem]
  obtain rfl : ag = rt := vl_same m6.inn.vl m4.inn.vl fun r => by
    rw [m6.mem, m3.mem, hmem]
    constructor
    · rintro (h | h | h)
      · exact h
      · exact .inr (.inl h)
      · exact .inr (.inr h)
    · exact .inl
  have l4 := m4.inn.len
  have l1 := m1.inn.len
  have l3 := m3.inn.len
  refine ⟨ba, bc, ag, e1, e2, e3, e4, e5, e6, m4.inn.vl, by omega, by omega, by omega, fun j hj => by have := (hin j hj).len; omega, fun m => ⟨hlen, fun j hj => ⟨(hin j hj).vl, fun r hr => (hmem r).2 ?_⟩, fun j hj r hr => hr, by omega, by omega, by omega⟩, hmem⟩
  rcases (show j = 0 ∨ j = 1 ∨ j = 2 by omega) with rfl | rfl | rfl
  · exact .inl hr
  · exact .inr (.inl hr)
  · exact .inr (.inr hr)
end Go.Proofs.YtcfbgelhggapjaaGreatDoor

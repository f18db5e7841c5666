/- Contracts: byID, sorted. -/
import Derived.Test.YtncdombfhcfobaaM9
namespace Go.Proofs.Ytncdombfhcfobaa
open Go.RowKit
theorem own_blk' {W : World} {b : Nat} {e : TypeId} {k n : Nat} {v : Value} {xs : List Value} (h : W.ownsRow b e k v n xs) (hn : 0 < n) : ∃ g cap cur, v = .slice (some ⟨g, 0, none⟩) n cap ∧ n ≤ cap ∧ cap ≤ maxLen ∧ b ≤ g ∧ Blk W g e cur ∧ cur.take (n * k) = xs := by
  rcases h.2 with ⟨_, h1⟩ | ⟨g, cap, cur, h1, h2, h3, h4, h5, _, h7⟩
  · omega
  · exact ⟨g, cap, cur.toList, h1, h4, h5, h2, by unfold Blk; rw [h3], h7⟩
theorem Blk.slr {w : World} {g : Nat} {t : TypeId} {cs : List Value} {k n : Nat} (h : Blk w g t cs) (hl : cs.length = n * k) : SlR w w.heap.size k (some ⟨g, 0, none⟩) n cs :=
  ⟨hl, fun _ => ⟨g, 0, rfl, h.lt, fun j u hu => by rw [Nat.zero_add, h.cell]; exact hu⟩⟩
theorem Try.infoItem : (Try.prog.info? 36).map (fun i => (i.zero, i.size, i.bytes)) = some (some (.agg #[.int .i64 0, .int .i64 0, .int .i64 0, .int .i64 0, .string ⟨#[]⟩, .int .i64 0]), 6, 56) := by kernel_rfl
theorem Try.infoInt : (Try.prog.info? 3).map (fun i => (i.zero, i.size, i.bytes)) = some (some (.int .i64 0), 1, 8) := by kernel_rfl
theorem Try.infoMod : (Try.prog.info? 27).map (fun i => (i.zero, i.size, i.bytes)) = some (some (.agg #[.int .i64 0, .slice none 0 0]), 2, 32) := by kernel_rfl
abbrev zV : Value := .agg #[.int .i64 0, .int .i64 0, .int .i64 0, .int .i64 0, .string ⟨#[]⟩, .int .i64 0]
theorem zvItem (w : World) : (zeroValue 36).run Try.prog w = .ok zV w := Try.zeroValue36 w
/-- an item as an entry of a map by numbers -/
def kvI (x : It) : Int × Value := (x.id, itV x)
def unI (p : Int × Value) : It :=
  match p.2 with
  | .agg xs => match xs.toList with
    | [.int _ a, .int _ b, .int _ c, .int _ d, .string s, .int _ e] => ⟨a, b, c, d, s, e⟩
    | _ => zIt
  | _ => zIt
theorem unI_kvI (x : It) : unI (kvI x) = x := rfl
theorem perm_un {F : List It} {p : Int × Value} {F' : List (Int × Value)} (h : (F.map kvI).Perm (p :: F')) : ∃ x Fi, p = kvI x ∧ F' = Fi.map kvI ∧ F.Perm (x :: Fi) := by
  have hm : ∀ q ∈ p :: F', kvI (unI q) = q := fun q hq => by
    have := h.symm.subset hq
    obtain ⟨x, _, rfl⟩ := List.mem_map.1 this
    rw [unI_kvI]
  refine ⟨unI p, F'.map unI, (hm p (by simp)).symm, ?_, ?_⟩
  · rw [List.map_map]
    conv => lhs; rw [← List.map_id F']
    exact List.map_congr_left fun q hq => (hm q (List.mem_cons_of_mem _ hq)).symm
  · have h2 := h.map unI
    rw [List.map_map] at h2
    have e : F.map (unI ∘ kvI) = F := by
      have : (unI ∘ kvI) = id := by funext x; exact unI_kvI x
      rw [this, List.map_id]
    rw [e] at h2
    exact h2
def putI (x : It) : List It → List It
  | [] => [x]
  | y :: l => if y.id = x.id then x :: l else y :: putI x l
theorem putI_kv (x : It) : ∀ l : List It, (putI x l).map kvI = putL x.id (itV x) (l.map kvI)
  | [] => rfl
  | y :: l => by
    have ih := putI_kv x l
    by_cases h : y.id = x.id
    · simp [putI, putL, kvI, h]
    · simp only [putI, h, if_false, List.map_cons, ih, putL, kvI]
def byL (l : List It) : List It := l.foldl (fun ls x => putI x ls) []
theorem byL_snoc (l : List It) (k : Nat) (hk : k < l.length) : byL (l.take (k + 1)) = putI l[k] (byL (l.take k)) := by
  unfold byL
  rw [List.take_succ_eq_append_getElem hk, List.foldl_append]
  rfl
theorem c_byID (A : Option Addr) (n c : Nat) (l : List It) (w : World) (hn : n ≤ 9223372036854775807) (hr : SlR w w.heap.size 6 A n (l.flatMap cI)) :
    Calls Try.prog 37 #[.slice A n c] w fun e w' => ∃ b, e = .returned (.map (some b)) ∧ w.heap.size ≤ b ∧ IM w' b ((byL l).map kvI) ∧ Below w.heap.size w w' := by
  have hl := hr.lenI
  have hmm := @run_makeMap Try.prog
  go_enter Try.func37, Try.ntmps37
  go_wp2
  go_loopw [9] (fun i wr => ∃ k : Nat, k ≤ n ∧ i = .int .i64 k ∧ IM wr w.heap.size ((byL (l.take k)).map kvI) ∧ Below w.heap.size w wr) (fun i _ => n - (intOf i).toNat)
  case atStart => exact ⟨0, Nat.zero_le _, rfl, IM.new w, balloc (Below.refl _ _) _⟩
  case round =>
    obtain ⟨k, hk, rfl, him, hb⟩ := hrel
    by_cases hlt : k < n
    · have hkl : k < l.length := by omega
      obtain ⟨b, off, rfl, hbb, hx0, hx1, hx2, hx3, hx4, hx5⟩ := hr.atI hb hkl
      have H := hide (byL_snoc l k hkl)
      have hji : (k : Int) < (n : Int) := by omega
      clear hr hmm hl
      generalize l[k] = s at *
      go_wp2_with (at_mapUpdate; refine wpList_mapUpdate_im rfl _ _ _ 82 (Or.inl rfl) 3 36 Try.underlying82 Try.underlying3 rfl (him.alloc _) _ rfl _ rfl ?_; intro w1 him1 hg1 hs1)
      go_roundw
      case rel =>
        exact ⟨k + 1, by omega, by go_num, by rw [H.out, putI_kv]; exact him1, bgrown (balloc hb _) hg1 (fun j e => by cases e; exact Nat.le_refl _)⟩
      case measure => simp [intOf]; omega
    · obtain rfl : k = n := by omega
      rw [← hl, List.take_length] at him
      have HL := hide hl
      clear hl
      go_wp2
      go_ret
      exact ⟨_, rfl, Nat.le_refl _, him, hb⟩
end Go.Proofs.Ytncdombfhcfobaa

/- The law's examples, in plain words: what each function answers on them. -/
import Derived.Test.YtncdombfhcfobaaM33
import Derived.Test.YtncdombfhcfobaaRy2
namespace Go.Proofs.Ytncdombfhcfobaa
open Go.RowKit
def tD : ByteArray := ⟨#[100]⟩
def tE : ByteArray := ⟨#[101]⟩
def tA : ByteArray := ⟨#[97]⟩
def tB : ByteArray := ⟨#[98]⟩
def tX : ByteArray := ⟨#[120]⟩
def exIt : List It := [⟨1, 1, 0, 0, ⟨#[100]⟩, 0⟩, ⟨7, 2, 100, 100, ⟨#[]⟩, 1⟩, ⟨9, 1, 5, 5, ⟨#[101]⟩, 0⟩]
def exPl : List Pl := [⟨[2004, 1], 1000, 1000, ⟨#[100]⟩⟩, ⟨[2004, 7, 3], 1110, 1110, ⟨#[97]⟩⟩, ⟨[2004, 7, 5], 1120, 1100, ⟨#[98]⟩⟩, ⟨[2004, 9], 1005, 1005, ⟨#[101]⟩⟩]
def exNx : Mo := ⟨2, [⟨1, 1, 0, 0, ⟨#[100]⟩, 0⟩]⟩
def exIx : List It := [⟨5, 1, 20, 0, ⟨#[120]⟩, 0⟩]
def ex35 : Mo := ⟨1, [⟨5, 1, 20, 0, ⟨#[98]⟩, 0⟩]⟩
def ex5 : Mo := ⟨1, [⟨3, 1, 10, 10, ⟨#[97]⟩, 0⟩, ⟨5, 1, 20, 0, ⟨#[120]⟩, 0⟩]⟩
def exBad : Mo := ⟨1, [⟨0, 2, 0, 0, ⟨#[]⟩, 2⟩]⟩
def exRb : Cp := ⟨2004, 2, 1000, 1000, [⟨9, 1, 5, 5, ⟨#[101]⟩, 0⟩], []⟩
def zCp : Cp := ⟨0, 0, 0, 0, [], []⟩
theorem ex_v : validCopyB exMs exC = true := by kernel_rfl
theorem ex_valid : validB exMs = true := by kernel_rfl
theorem ex_valid1 : validB [⟨2, ex2⟩] = false := by kernel_rfl
theorem sort_is {l s t : List It} (h : SortOf l s) (hn : decide ((l.map (·.id)).Nodup) = true) (ht : decide (t.Pairwise (fun x y => ¬ y.id < x.id)) = true) (hp : t.isPerm l = true) : s = t :=
  SortOf.uniq (of_decide_eq_true hn) (List.Perm.refl l) h ⟨List.isPerm_iff.1 hp, of_decide_eq_true ht⟩
theorem ex_made {s : List It} (h : SortOf (madeM exMs exC) s) : s = exIt := sort_is h (by kernel_rfl) (by kernel_rfl) (by kernel_rfl)
theorem ex_ok : expOk (plc exMs 13 exIt [2004] 1000 1000) = true := by kernel_rfl
theorem ex_pl : expB (plc exMs 13 exIt [2004] 1000 1000) = exPl := by kernel_rfl
theorem ex_reb : rebOk exMs exNx exC = true := by kernel_rfl
theorem ex_rebC : rebC (byL exNx.items) exC = exRb := by kernel_rfl
theorem ex_cont : sortN (contU (byL (itemsOf exMs exC.mod)) (byL exNx.items) exC) = [1] := by
  have : contU (byL (itemsOf exMs exC.mod)) (byL exNx.items) exC = [1] := by kernel_rfl
  rw [this]
  simp [sortN]
theorem ex_mB : mergeB ⟨1, ex1⟩ ex35 ex5 = true := by kernel_rfl
theorem ex_mM {s : List It} (h : SortOf (mgM (byL ex1) (byL ex35.items) (byL ex5.items) 100) s) : s = exIx := sort_is h (by kernel_rfl) (by kernel_rfl) (by kernel_rfl)
theorem ex_mOk : (inB 1 1 20 && itsOk exIx) = true := by kernel_rfl
theorem ex_mG : mgG (byL ex1) (byL ex35.items) (byL ex5.items) 100 = [] := by kernel_rfl
theorem ex_rp : (validB exMs && validB (replL exNx exMs)) = true := by kernel_rfl
theorem ex_rpL : replL exNx exMs = [⟨1, ex1⟩, exNx] := by kernel_rfl
theorem ex_bad : (validB exMs && validB (replL exBad exMs)) = false := by kernel_rfl
theorem ex_zc : validCopyB exMs zCp = false := by kernel_rfl
theorem ex_dOk : (itsOk ex1 && itsOk exIx) = true := by kernel_rfl
theorem ex_chg : chgL ex1 exIx = exIx := by kernel_rfl
theorem ex_gone : goneL ex1 exIx = [3] := by kernel_rfl
theorem ex_prop : (inB 2 1 20 && itsOk ex2) = true := by kernel_rfl
theorem ex_cpOk : cpOk exC = true := by kernel_rfl
theorem ex_zcp : cpOk zCp = false := by kernel_rfl
theorem ex_sc : sameCp exC exC = true := by kernel_rfl
theorem ex_sc2 : sameCp exC exRb = false := by kernel_rfl
end Go.Proofs.Ytncdombfhcfobaa

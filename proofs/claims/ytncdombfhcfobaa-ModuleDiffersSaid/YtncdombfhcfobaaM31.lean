/- The iterator of placed: what one level of it gives, if the levels below it give what they should. -/
import Derived.Test.YtncdombfhcfobaaMk
namespace Go.Proofs.Ytncdombfhcfobaa
open Go.RowKit
attribute [local go_sem] Oper.semAt_some
structure Yi where
  r : PR
  kind : Int
  path : List Int
def encY (y : Yi) : Array Value := #[prV y.r, .int .i64 y.kind]
def GY (n1 : Nat) (y : Yi) (W : World) : Prop := W.ownsRow n1 3 1 (.slice y.r.a y.r.n y.r.c) y.path.length (y.path.flatMap cN) ∧ y.r.n = y.path.length
def ofY (y : Yi) : Pl × Int := (⟨y.path, y.r.x, y.r.y, y.r.text⟩, y.kind)
def PlOk (t : It) : Prop := 0 ≤ t.x ∧ t.x ≤ 4095 ∧ 0 ≤ t.y ∧ t.y ≤ 4095
def ModK (n0 : Nat) (w : World) (rows : List MR) (ms : List Mo) : Prop :=
  rows.length = ms.length ∧ ∀ (k : Nat) (h : k < rows.length) (h' : k < ms.length), rows[k].id = ms[k].id ∧ rows[k].n ≤ rows[k].c ∧ rows[k].c ≤ 9223372036854775807 ∧ SlR w n0 6 rows[k].a rows[k].n (ms[k].items.flatMap cI)
theorem ownJ {β : Type} {B : Nat} {J : β → World → Prop} (hJ : OwnFrom B J) {s : β} {U C : World} (h : J s U) (hb : Below U.heap.size U C) : J s C :=
  hJ s U C none h ⟨hb.os, hb.tape, hb.output, hb.size, fun k hk _ => hb.block k hk⟩ (fun r e => by cases e)
theorem plc_app (ms : List Mo) (f : Nat) (l k : List It) (path : List Int) (x y : Int) : plc ms (f + 1) (l ++ k) path x y = plc ms (f + 1) l path x y ++ plc ms (f + 1) k path x y := by
  simp only [plc, List.flatMap_append]
theorem plc_pre (ms : List Mo) (f : Nat) (l : List It) (k : Nat) (path : List Int) (x y : Int) : plc ms (f + 1) (l.take k) path x y <+: plc ms (f + 1) l path x y := by
  conv => rhs; rw [← List.take_append_drop k l, plc_app]
  exact List.prefix_append _ _
theorem wp_noexit {P : Program} {c : Code} {K : Act → World → Prop} {Q : Exit → Act → World → Prop} {a : Act} {w : World} (h : c.wp P (Exit.then K (fun _ _ _ => False)) a w) : c.wp P (Exit.then K Q) a w :=
  wp_mono h (fun e a w q => by cases e <;> first | exact q | exact q.elim)
theorem ModK.itemsOf {n0 : Nat} {w : World} (n : Int) : ∀ {rows : List MR} {ms : List Mo}, ModK n0 w rows ms → ∃ (r : MR) (b : Bool), fndV (fndR rows n) = .tuple #[mrV r, .bool b] ∧ r.n ≤ r.c ∧ r.c ≤ 9223372036854775807 ∧ SlR w n0 6 r.a r.n ((Go.Proofs.Ytncdombfhcfobaa.itemsOf ms n).flatMap cI)
  | [], [], _ => ⟨⟨0, none, 0, 0⟩, false, rfl, Nat.le_refl _, by simp, SlR.nil⟩
  | [], m :: ms, h => by have := h.1; simp at this
  | r :: rows, [], h => by have := h.1; simp at this
  | r :: rows, m :: ms, h => by
    have h0 := h.2 0 (by simp) (by simp)
    simp only [List.getElem_cons_zero] at h0
    by_cases e : r.id = n
    · refine ⟨r, true, ?_, h0.2.1, h0.2.2.1, ?_⟩
      · unfold fndR; rw [List.find?_cons_of_pos (by simpa using e)]; rfl
      · unfold Go.Proofs.Ytncdombfhcfobaa.itemsOf findM; rw [List.find?_cons_of_pos (by rw [← h0.1]; simpa using e)]; exact h0.2.2.2
    · obtain ⟨q, b, q1, q2⟩ := ModK.itemsOf n (rows := rows) (ms := ms) ⟨by simpa using h.1, fun k k1 k2 => h.2 (k + 1) (Nat.succ_lt_succ k1) (Nat.succ_lt_succ k2)⟩
      refine ⟨q, b, ?_, ?_⟩
      · unfold fndR at q1 ⊢; rw [List.find?_cons_of_neg (by simpa using e)]; exact q1
      · unfold Go.Proofs.Ytncdombfhcfobaa.itemsOf findM at q2 ⊢; rw [List.find?_cons_of_neg (by rw [← h0.1]; simpa using e)]; exact q2
theorem ModK.mods {n0 : Nat} {w : World} {rows : List MR} {ms : List Mo} (h : ModK n0 w rows ms) (hn : n0 ≤ w.heap.size) : Mods w rows ms :=
  ⟨h.1, fun j j1 j2 => ⟨(h.2 j j1 j2).1, (h.2 j j1 j2).2.1, (h.2 j j1 j2).2.2.1, (h.2 j j1 j2).2.2.2.more hn⟩⟩
theorem ModK.below {n0 : Nat} {w w' : World} {rows : List MR} {ms : List Mo} (h : ModK n0 w rows ms) (hb : Below n0 w w') : ModK n0 w' rows ms :=
  ⟨h.1, fun j j1 j2 => ⟨(h.2 j j1 j2).1, (h.2 j j1 j2).2.1, (h.2 j j1 j2).2.2.1, (h.2 j j1 j2).2.2.2.below hb⟩⟩
def frPl (l bi bp ba bl s0 : Nat) (Ai : Option Addr) (ni ci k : Nat) (u7 u8 u9 u10 u11 u17 u18 u19 u20 u21 u22 u23 u24 u25 u26 u27 u28 u29 u30 u31 u32 u33 u34 u35 u36 u37 u38 u39 u40 u41 u42 u43 u44 u45 u46 u47 u48 u49 u50 u51 u52 u53 u54 u55 u56 u57 u58 u59 u60 u61 u62 u63 u64 u65 u73 : Value) (Ds : List Nat) : Act :=
  { tmps := #[.func (.yield l) #[] #[], .pointer (some ⟨bi, 0, none⟩), .pointer (some ⟨bp, 0, none⟩), .pointer (some ⟨ba, 0, none⟩), .pointer (some ⟨bl, 0, none⟩), .pointer (some ⟨s0, 0, none⟩), undef, u7, u8, u9, u10, u11, undef, undef, .slice Ai ni ci, .int .i64 ni, .int .i64 k, u17, u18, u19, u20, u21, u22, u23, u24, u25, u26, u27, u28, u29, u30, u31, u32, u33, u34, u35, u36, u37, u38, u39, u40, u41, u42, u43, u44, u45, u46, u47, u48, u49, u50, u51, u52, u53, u54, u55, u56, u57, u58, u59, u60, u61, u62, u63, u64, u65, undef, undef, undef, undef, undef, undef, undef, u73], defers := marks Ds }
/-- what holds between two rounds -/
def MemPl (n0 n1 : Nat) (T : Nat → List (Pl × Int)) (J : List Yi → World → Prop) (W0 W1 : World) (k : Nat) (pre : List Yi) (Ds : List Nat) (W : World) : Prop :=
  pre.map ofY = T k ∧ J pre W ∧ Kee n0 n1 W1 W ∧ MarksOk W0.heap.size W Ds ∧ Ds.Nodup
def InvPl (l bi bp ba bl : Nat) (Ai : Option Addr) (ni ci : Nat) (W0 : World) (R : Nat → List Yi → List Nat → World → Prop) (N : Nat) (a : Act) (W : World) : Prop :=
  ∃ (k : Nat) (pre : List Yi) (Ds : List Nat) (u7 u8 u9 u10 u11 u17 u18 u19 u20 u21 u22 u23 u24 u25 u26 u27 u28 u29 u30 u31 u32 u33 u34 u35 u36 u37 u38 u39 u40 u41 u42 u43 u44 u45 u46 u47 u48 u49 u50 u51 u52 u53 u54 u55 u56 u57 u58 u59 u60 u61 u62 u63 u64 u65 u73 : Value), a = frPl l bi bp ba bl W0.heap.size Ai ni ci k u7 u8 u9 u10 u11 u17 u18 u19 u20 u21 u22 u23 u24 u25 u26 u27 u28 u29 u30 u31 u32 u33 u34 u35 u36 u37 u38 u39 u40 u41 u42 u43 u44 u45 u46 u47 u48 u49 u50 u51 u52 u53 u54 u55 u56 u57 u58 u59 u60 u61 u62 u63 u64 u65 u73 Ds ∧ N = ni - k ∧ k ≤ ni ∧ R k pre Ds W
/-- the frame of a round of the inner loop -/
def frRd (s0 Bx : Nat) (kind : Int) (u0 u1 u2 u3 u4 u6 u7 u8 u9 u10 u11 u14 u15 u16 u17 u18 u19 u20 u21 u22 u23 u24 u25 u26 u27 u28 u29 u30 u31 u32 u33 u34 u35 u36 u37 u38 u39 u40 u41 u42 u43 u44 u45 u46 u47 u48 u49 u50 u51 u52 u53 u54 u55 u56 u57 u58 u59 u60 u61 u62 u63 u64 u65 u66 u67 u68 u69 u70 u71 u72 u73 : Value) : Act :=
  { tmps := #[u0, u1, u2, u3, u4, .pointer (some ⟨s0, 0, none⟩), u6, u7, u8, u9, u10, u11, .pointer (some ⟨Bx, 0, none⟩), .int .i64 kind, u14, u15, u16, u17, u18, u19, u20, u21, u22, u23, u24, u25, u26, u27, u28, u29, u30, u31, u32, u33, u34, u35, u36, u37, u38, u39, u40, u41, u42, u43, u44, u45, u46, u47, u48, u49, u50, u51, u52, u53, u54, u55, u56, u57, u58, u59, u60, u61, u62, u63, u64, u65, u66, u67, u68, u69, u70, u71, u72, u73], defers := [] }
def AxPl (n1 s0 B0 : Nat) (v : Yi) (a : Act) (W : World) : Prop :=
  ∃ (Bx : Nat) (u0 u1 u2 u3 u4 u6 u7 u8 u9 u10 u11 u14 u15 u16 u17 u18 u19 u20 u21 u22 u23 u24 u25 u26 u27 u28 u29 u30 u31 u32 u33 u34 u35 u36 u37 u38 u39 u40 u41 u42 u43 u44 u45 u46 u47 u48 u49 u50 u51 u52 u53 u54 u55 u56 u57 u58 u59 u60 u61 u62 u63 u64 u65 u66 u67 u68 u69 u70 u71 u72 u73 : Value), a = frRd s0 Bx v.kind u0 u1 u2 u3 u4 u6 u7 u8 u9 u10 u11 u14 u15 u16 u17 u18 u19 u20 u21 u22 u23 u24 u25 u26 u27 u28 u29 u30 u31 u32 u33 u34 u35 u36 u37 u38 u39 u40 u41 u42 u43 u44 u45 u46 u47 u48 u49 u50 u51 u52 u53 u54 u55 u56 u57 u58 u59 u60 u61 u62 u63 u64 u65 u66 u67 u68 u69 u70 u71 u72 u73 ∧ B0 ≤ Bx ∧ Blk W Bx 62 (cP v.r) ∧ GY n1 v W
theorem Blk.allP {w : World} {g : Nat} {t : TypeId} {r : PR} (h : Blk w g t (cP r)) : w.cell? ⟨g, 0, none⟩ = some (.slice r.a r.n r.c) ∧ w.cell? ⟨g, 1, none⟩ = some (.int .i64 r.x) ∧ w.cell? ⟨g, 2, none⟩ = some (.int .i64 r.y) ∧ w.cell? ⟨g, 3, none⟩ = some (.string r.text) :=
  ⟨h.cell 0, h.cell 1, h.cell 2, h.cell 3⟩
theorem ownFrom_up {β : Type} {B : Nat} {J : β → World → Prop} (h : OwnFrom B J) {s : β} {X Y : World} {row : Option Nat} {B' : Nat} (hB : B ≤ B') (hs : J s X) (hg : X.grownBy Y row) (hr : ∀ r, row = some r → B' ≤ r ∧ ∃ o : Obj, X.heap[r]? = some o ∧ o.isCells = false) : J s Y :=
  h s X Y row hs hg (fun r e => ⟨Nat.le_trans hB (hr r e).1, (hr r e).2⟩)
def PlMem (n0 n1 : Nat) (ms : List Mo) (rows : List MR) (A : Option Addr) (N cc : Nat) (items : List It) (path : List Int) (x y : Int) (Ai Ap : Option Addr) (ni ci kp ep bi bp ba bl : Nat) (w : World) : Prop :=
  (n1 ≤ bi ∧ n1 ≤ bp ∧ n1 ≤ ba ∧ n1 ≤ bl) ∧ (Blk w bi 24 [.slice Ai ni ci] ∧ Blk w bp 28 [.slice Ap kp ep] ∧ Blk w ba 34 [.int .i64 x, .int .i64 y] ∧ Blk w bl 42 [.slice A N cc]) ∧
    (RdK n0 n1 w 6 Ai ni (items.flatMap cI) ∧ RdK n0 n1 w 1 Ap kp (path.flatMap cN) ∧ SlR w n0 2 A N (rows.flatMap cM) ∧ ModK n0 w rows ms) ∧ (ni ≤ 9223372036854775807 ∧ kp ≤ ep ∧ ep ≤ 9223372036854775807)
set_option linter.unusedSimpArgs false in
set_option maxRecDepth 100000 in
set_option maxHeartbeats 8000000 in
theorem placed_one (n n0 n1 : Nat) (hn01 : n0 ≤ n1) (h2 : 2 ≤ n) (ms : List Mo) (rows : List MR) (A : Option Addr) (N cc : Nat) (hNn : N ≤ 9223372036854775807) (f : Nat) (items : List It) (path : List Int) (x y : Int)
    (hio : ∀ t ∈ items, PlOk t) (hxy : 0 ≤ x ∧ 0 ≤ y ∧ x ≤ 1000000 ∧ y ≤ 1000000) (hpl : path.length ≤ 100)
    (hin : ∀ s ∈ items, ∀ (Ai Ap : Option Addr) (ni ci kp ep bi bp ba bl : Nat) (w : World), PlMem n0 n1 ms rows A N cc (itemsOf ms s.mod) (path ++ [s.id]) (x + s.x) (y + s.y) Ai Ap ni ci kp ep bi bp ba bl w →
      SeqG Fence.wide n Try.prog 66 #[.pointer (some ⟨bi, 0, none⟩), .pointer (some ⟨bp, 0, none⟩), .pointer (some ⟨ba, 0, none⟩), .pointer (some ⟨bl, 0, none⟩)] encY n0 n1 (GY n1) (fun ys => ys.map ofY = plc ms f (itemsOf ms s.mod) (path ++ [s.id]) (x + s.x) (y + s.y)) (fun ys => ys.map ofY <+: plc ms f (itemsOf ms s.mod) (path ++ [s.id]) (x + s.x) (y + s.y)) w)
    (Ai Ap : Option Addr) (ni ci kp ep bi bp ba bl : Nat) (w : World) (hmem : PlMem n0 n1 ms rows A N cc items path x y Ai Ap ni ci kp ep bi bp ba bl w) :
    SeqG Fence.wide n Try.prog 66 #[.pointer (some ⟨bi, 0, none⟩), .pointer (some ⟨bp, 0, none⟩), .pointer (some ⟨ba, 0, none⟩), .pointer (some ⟨bl, 0, none⟩)] encY n0 n1 (GY n1) (fun ys => ys.map ofY = plc ms (f + 1) items path x y) (fun ys => ys.map ofY <+: plc ms (f + 1) items path x y) w := by
    obtain ⟨i1, hi1, hy0, hy1, hy2⟩ := info_parts Try.infoInt
    obtain ⟨⟨hbi1, hp1, ha1, hl1⟩, ⟨gi, gp, ga, gl⟩, ⟨hri, hrp, hrm, hmk⟩, ⟨hni, hkp, hep⟩⟩ := hmem
    intro l J Jx W hlW hW hJ hJx hY h0
    refine callsIn_of_wp_marks Try.func66 rfl trivial ?_ rfl
    simp only [Try.ntmps66, List.size_toArray, List.length_cons, List.length_nil, Nat.reduceAdd, Nat.reduceSub, Array.replicate_succ, Array.replicate_zero, List.push_toArray, List.append_toArray, List.nil_append, List.cons_append]
    refine wpIn_wide.2 ?_
    have giW := gi.below hW gi.lt
    have gpW := gp.below hW gp.lt
    have gaW := ga.below hW ga.lt
    have glW := gl.below hW gl.lt
    obtain ⟨ci0, -⟩ := giW.all1
    have hil := giW.lt
    have HY := hide hY
    clear hY
    have hb1 := balloc (Below.refl W.heap.size W) (.cells #[.func (.yield l) #[] #[]] 114)
    have gY := Blk.new W 114 [.func (.yield l) #[] #[]]
    have HB := hide (And.intro (giW.alloc (.cells #[.func (.yield l) #[] #[]] 114)) (And.intro (gpW.alloc (.cells #[.func (.yield l) #[] #[]] 114)) (And.intro (gaW.alloc (.cells #[.func (.yield l) #[] #[]] 114)) (And.intro (glW.alloc (.cells #[.func (.yield l) #[] #[]] 114)) gY))))
    have hn0w : n0 ≤ w.heap.size := by have := gi.lt; omega
    have hnW : n0 ≤ W.heap.size := by have := hW.size; omega
    have hri1 := (hri.below hW hn0w).below hb1 hnW
    have hrp1 := (hrp.below hW hn0w).below hb1 hnW
    have hJ1 : J [] (W.alloc (.cells #[.func (.yield l) #[] #[]] 114)) := hJ.alloc _ h0
    have hl := hri.1.lenI
    have HL := hide hl
    have HR := hide (And.intro hri1 hrp1)
    clear giW gpW gaW glW gY hri1 hrp1 hri hrp hl
    go_wp2_with fail
    generalize hW1 : W.alloc (.cells #[.func (.yield l) #[] #[]] 114) = W1 at *
    have hs1 : n0 ≤ W1.heap.size := by rw [← hW1]; simp; omega
    clear hW1
    generalize hT : (fun k => plc ms (f + 1) (items.take k) path x y) = T
    refine wp_loop_ghost_k (InvPl l bi bp ba bl Ai ni ci W (MemPl n0 n1 T J W W1)) ni ?_ ?_
    · exact ⟨0, [], [], undef, undef, undef, undef, undef, undef, undef, undef, undef, undef, undef, undef, undef, undef, undef, undef, undef, undef, undef, undef, undef, undef, undef, undef, undef, undef, undef, undef, undef, undef, undef, undef, undef, undef, undef, undef, undef, undef, undef, undef, undef, undef, undef, undef, undef, undef, undef, undef, undef, undef, undef, undef, undef, undef, undef, rfl, rfl, Nat.zero_le _, by rw [← hT]; rfl, hJ1, Kee.refl _ _ _, (fun D hD => by cases hD), List.nodup_nil⟩
    · rintro Nx a wr ⟨k, pre, Ds, u7, u8, u9, u10, u11, u17, u18, u19, u20, u21, u22, u23, u24, u25, u26, u27, u28, u29, u30, u31, u32, u33, u34, u35, u36, u37, u38, u39, u40, u41, u42, u43, u44, u45, u46, u47, u48, u49, u50, u51, u52, u53, u54, u55, u56, u57, u58, u59, u60, u61, u62, u63, u64, u65, u73, rfl, rfl, hk, hpre, hJp, hK, hmk5, hnd⟩ JJ KK hJJ hKK
      have HM5 := hide (And.intro hmk5 hnd)
      clear hmk5 hnd
      rw [← hT] at hpre
      dsimp only at hpre
      unfold frPl
      by_cases hlt : k < ni
      · have hki : (k : Int) < (ni : Int) := by omega
        have hkl : k < items.length := by rw [HL.out]; exact hlt
        obtain ⟨gi, gp, ga, gl, gY⟩ := HB.out
        have gp2 := gp.kee hK hp1
        have ga2 := ga.kee hK ha1
        have gl2 := gl.kee hK hl1
        obtain ⟨hri1, hrp1⟩ := HR.out
        have hrp2 := hrp1.kee hK
        obtain ⟨b, off, hAe, hbb, y0, y1, y2, y3, y4, y5⟩ := (hri1.kee hK).1.atI (Below.refl _ _) hkl
        subst hAe
        clear gi gp ga gl hri1 hrp1
        obtain ⟨p0, -⟩ := gp2.all1
        have hpl2 := gp2.lt
        have hgs : W1.heap.size ≤ wr.heap.size := hK.below.size
        have hsok := hio _ (List.getElem_mem hkl)
        have HSn := hide (show plc ms (f + 1) (items.take (k + 1)) path x y = plc ms (f + 1) (items.take k) path x y ++ ((⟨path ++ [items[k].id], x + items[k].x, y + items[k].y, items[k].text⟩, items[k].kind) :: plc ms f (itemsOf ms items[k].mod) (path ++ [items[k].id]) (x + items[k].x) (y + items[k].y)) from by rw [List.take_succ_eq_append_getElem hkl]; simp only [plc, List.flatMap_append, List.flatMap_cons, List.flatMap_nil, List.append_nil])
        have HIn := hide (hin _ (List.getElem_mem hkl))
        have HTk := hide (plc_pre ms f items (k + 1) path x y)
        have HPre := hide hpre
        clear hpre
        generalize items[k] = s at *
        have HP2 := hide (And.intro gp2 (And.intro ga2 (And.intro gl2 (And.intro gY hrp2))))
        clear gp2 ga2 gl2 gY hrp2
        go_upto_region 4 with (fail)
        have hkp2 := HP2.out.2.2.2.2.1.lenN
        have hkp100 : kp ≤ 100 := by omega
        have gX : Blk (wr.alloc (.cells #[.int .i64 s.id, .int .i64 s.kind, .int .i64 s.x, .int .i64 s.y, .string s.text, .int .i64 s.mod] 36)) wr.heap.size 36 (cI s) := Blk.new wr 36 (cI s)
        have gp3 := HP2.out.1.alloc (.cells #[.int .i64 s.id, .int .i64 s.kind, .int .i64 s.x, .int .i64 s.y, .string s.text, .int .i64 s.mod] 36)
        have hbx := balloc (Below.refl wr.heap.size wr) (.cells #[.int .i64 s.id, .int .i64 s.kind, .int .i64 s.x, .int .i64 s.y, .string s.text, .int .i64 s.mod] 36)
        have hrp3 := HP2.out.2.2.2.2.below hbx (by omega)
        obtain ⟨xb, hxb⟩ : ∃ xb, xb = wr.heap.size := ⟨_, rfl⟩
        simp only [← hxb] at gX ⊢
        generalize hw2 : wr.alloc (.cells #[.int .i64 s.id, .int .i64 s.kind, .int .i64 s.x, .int .i64 s.y, .string s.text, .int .i64 s.mod] 36) = w2 at *
        have HKP := hide hkp2
        clear hw2 hkp2 p0 y0 y1 y2 y3 y4 y5
        have HX := hide (And.intro gX (And.intro gp3 (And.intro hbx (And.intro hrp3 hxb))))
        clear hbx hrp3 hxb
        go_cut [8] from 17 to 65 (fun v wx => ∃ Aq cq, v = .slice Aq (kp + 1) cq ∧ wx.ownsRow w2.heap.size 3 1 v (kp + 1) ((path ++ [s.id]).flatMap cN) ∧ Below w2.heap.size w2 wx)
        case first =>
          have hkk : (kp : Int) ≤ (ep : Int) := by omega
          have hk00 : (0 : Int) ≤ (kp : Int) := by omega
          have hS := fun (U : World) (h : Below w2.heap.size w2 U) => (show U.cell? ⟨bp, 0, none⟩ = some (.slice Ap kp ep) ∧ U.cell? ⟨xb, 0, none⟩ = some (.int .i64 s.id) from ⟨(gp3.below h gp3.lt).all1.1, (gX.below h gX.lt).cell 0⟩)
          have HS := hide hS
          clear hS gX gp3
          refine wp_noexit ?_
          refine wp_region_held_drew (S := fun U => U.cell? ⟨bp, 0, none⟩ = some (.slice Ap kp ep) ∧ U.cell? ⟨xb, 0, none⟩ = some (.int .i64 s.id)) (by kernel_rfl) (HS.out _ (bdrew (Below.refl _ _))) (fun hHeld => ?_)
          refine wpAnyH_take (i := 0) (v := ?_) rfl (by kernel_rfl) (by kernel_rfl) (by kernel_rfl) (fun _ _ _ h => h) (Or.inl ⟨by rfl, ?hy1⟩) (by assumption) ?rs1
          case hy1 => (intro w hSw; (try dsimp only at hSw); go_simp; try (with_reducible rfl))
          (try simp only [Act.put, List.setIfInBounds_toArray, List.set_cons_zero, List.set_cons_succ, List.getElem_toArray, List.getElem_cons_zero, List.getElem_cons_succ])
          refine wpAnyH_take (i := 1) (v := ?_) rfl (by kernel_rfl) (by kernel_rfl) (by kernel_rfl) (fun _ _ _ h => h) (Or.inl ⟨by rfl, ?hy2⟩) (by assumption) ?rs2
          case hy2 => (intro w hSw; (try dsimp only at hSw); go_simp; try (with_reducible rfl))
          (try simp only [Act.put, List.setIfInBounds_toArray, List.set_cons_zero, List.set_cons_succ, List.getElem_toArray, List.getElem_cons_zero, List.getElem_cons_succ])
          refine wpAnyH_take (i := 2) (v := ?_) rfl (by kernel_rfl) (by kernel_rfl) (by kernel_rfl) (fun _ _ _ h => h) (Or.inl ⟨by rfl, ?hy3⟩) (by assumption) ?rs3
          case hy3 => (intro w hSw; (try dsimp only at hSw); go_simp; try (with_reducible rfl))
          (try simp only [Act.put, List.setIfInBounds_toArray, List.set_cons_zero, List.set_cons_succ, List.getElem_toArray, List.getElem_cons_zero, List.getElem_cons_succ])
          refine wpAnyH_take (i := 3) (v := ?_) rfl (by kernel_rfl) (by kernel_rfl) (by kernel_rfl) (fun _ _ _ h => h) (Or.inl ⟨by rfl, ?hy4⟩) (by assumption) ?rs4
          case hy4 => (intro w hSw; (try dsimp only at hSw); go_simp; try (with_reducible rfl))
          (try simp only [Act.put, List.setIfInBounds_toArray, List.set_cons_zero, List.set_cons_succ, List.getElem_toArray, List.getElem_cons_zero, List.getElem_cons_succ])
          refine wpAnyH_take (i := 4) (v := ?_) rfl (by kernel_rfl) (by kernel_rfl) (by kernel_rfl) (fun _ _ _ h => h) (Or.inl ⟨by rfl, ?hy5⟩) (by assumption) ?rs5
          case hy5 => (intro w hSw; (try dsimp only at hSw); go_simp; try (with_reducible rfl))
          (try simp only [Act.put, List.setIfInBounds_toArray, List.set_cons_zero, List.set_cons_succ, List.getElem_toArray, List.getElem_cons_zero, List.getElem_cons_succ])
          refine wpAnyH_take (i := 5) (v := ?_) rfl (by kernel_rfl) (by kernel_rfl) (by kernel_rfl) (fun _ _ _ h => h) (Or.inl ⟨by rfl, ?hy6⟩) (by assumption) ?rs6
          case hy6 => (intro w hSw; (try dsimp only at hSw); go_simp; try (with_reducible rfl))
          (try simp only [Act.put, List.setIfInBounds_toArray, List.set_cons_zero, List.set_cons_succ, List.getElem_toArray, List.getElem_cons_zero, List.getElem_cons_succ])
          refine wpAnyH_take (i := 6) (v := ?_) rfl (by kernel_rfl) (by kernel_rfl) (by kernel_rfl) (fun _ _ _ h => h) (Or.inl ⟨by rfl, ?hy7⟩) (by assumption) ?rs7
          case hy7 => (intro w hSw; (try dsimp only at hSw); go_simp; try (with_reducible rfl))
          (try simp only [Act.put, List.setIfInBounds_toArray, List.set_cons_zero, List.set_cons_succ, List.getElem_toArray, List.getElem_cons_zero, List.getElem_cons_succ])
          refine wpAnyH_take (i := 7) (v := ?_) rfl (by kernel_rfl) (by kernel_rfl) (by kernel_rfl) (fun _ _ _ h => h) (Or.inl ⟨by rfl, ?hy8⟩) (by assumption) ?rs8
          case hy8 => (intro w hSw; (try dsimp only at hSw); go_simp; try (with_reducible rfl))
          (try simp only [Act.put, List.setIfInBounds_toArray, List.set_cons_zero, List.set_cons_succ, List.getElem_toArray, List.getElem_cons_zero, List.getElem_cons_succ])
          refine wpAnyH_ready (rs := [8]) (by kernel_rfl) (by simp) ?_
          refine AllReadyH.cons rfl (fun K hK => ?_) ?_
          · go_simp
            refine hK.out _ _ (by exact (HS.out _ (bdrew (balloc (Below.refl _ _) _)))) (fun hHeld => ?_)
            clear hK K
            (try simp only [Act.put, List.setIfInBounds_toArray, List.set_cons_zero, List.set_cons_succ, List.getElem_toArray, List.getElem_cons_zero, List.getElem_cons_succ])
            refine wpAnyH_ready (rs := [9]) (by kernel_rfl) (by simp) ?_
            refine AllReadyH.cons (o := { dst := some 29, op := Op.call { callee := Callee.builtin Builtin.append, args := #[Operand.tmp 25, Operand.tmp 28], argTypes := #[28, 28] }, type := 28, pos := "module.go:156", after := #[{ on := 5, ground := Ground.data }, { on := 8, ground := Ground.data }], guard := none }) rfl (fun K hK => ?_) ?_
            · refine step_append_fresh (size := 1) (by rfl) _ _ 28 (by rfl) w2.heap.size 3 i1 (.int .i64 0) 8 Try.underlying28 hi1 hy0 hy1 hy2 (by rfl) kp (path.flatMap cN) (by rfl) HX.out.2.2.2.1.1 (bdrew (balloc (Below.refl _ _) (.cells #[.int .i64 s.id] 3))) 1 1 (cN s.id) (by rfl) ((Blk.new w2 3 (cN s.id)).drew.slr (n := 1) (k := 1) rfl) (Below.refl _ _) (by omega) (by unfold maxLen; omega) (by omega) (by exact (bdrew (balloc (Below.refl _ _) (.cells #[.int .i64 s.id] 3))).size) ?_
              intro v8 w8 ho8 hg8
              have hb8 : Below w2.heap.size w2 w8 := bgrown (bdrew (balloc (Below.refl _ _) (.cells #[.int .i64 s.id] 3))) hg8 (fun j e => by cases e)
              have HO8 := hide (And.intro ho8 hb8)
              obtain ⟨Aq, cq, he8, _, _, _⟩ := SlR.of_own ho8
              subst he8
              clear ho8 hg8 hb8
              refine hK.out _ _ (by exact (HS.out _ HO8.out.2)) (fun hHeld => ?_)
              clear hK K
              (try simp only [Act.put, List.setIfInBounds_toArray, List.set_cons_zero, List.set_cons_succ, List.getElem_toArray, List.getElem_cons_zero, List.getElem_cons_succ])
              refine wpAnyH_take (i := 10) (v := ?_) rfl (by kernel_rfl) (by kernel_rfl) (by kernel_rfl) (fun _ _ _ h => h) (Or.inl ⟨by rfl, ?hy9⟩) (by assumption) ?rs9
              case hy9 => (intro w hSw; (try dsimp only at hSw); go_simp; try (with_reducible rfl))
              (try simp only [Act.put, List.setIfInBounds_toArray, List.set_cons_zero, List.set_cons_succ, List.getElem_toArray, List.getElem_cons_zero, List.getElem_cons_succ])
              refine wpAnyH_done (by kernel_rfl) ?_ _
              go_wp2_with fail
              go_meet
              refine ⟨Aq, cq, rfl, ?_, HO8.out.2⟩
              rw [flatN_snoc]
              exact HO8.out.1
            exact AllReadyH.nil
          exact AllReadyH.nil
        case rest =>
          obtain ⟨w3, rfl⟩ : ∃ W : World, W = wc := ⟨_, rfl⟩
          obtain ⟨Aq, cq, rfl, ho3, hb3⟩ := hcut
          obtain ⟨gX, gp3, hbx, hrp3, -⟩ := HX.out
          obtain ⟨gp2, ga2, gl2, gY, hrp2⟩ := HP2.out
          have hb23 := bthen hbx hb3
          have gX3 := gX.below hb3 gX.lt
          have ga3 := ga2.below hb23 ga2.lt
          have gl3 := gl2.below hb23 gl2.lt
          obtain ⟨a0, a1, _, _⟩ := ga3.all2
          obtain ⟨s0, s1, s2, s3, s4, s5⟩ := gX3.allI
          have hal := ga3.lt
          have hxl := gX3.lt
          obtain ⟨q1, q2, q3, q4⟩ := hsok
          obtain ⟨q5, q6, q7, q8⟩ := hxy
          have hx5 : x + s.x ≤ 2000000 := by omega
          have hy5 : y + s.y ≤ 2000000 := by omega
          have hx6 : 0 ≤ x + s.x := by omega
          have hy6 : 0 ≤ y + s.y := by omega
          clear gX gp3 hbx hrp3 gp2 ga2 gl2 hrp2
          go_upto_region 6 with (fail)
          have hJ3 : J pre (w3.alloc (.cells #[.int .i64 (x + s.x), .int .i64 (y + s.y)] 34)) := ownJ hJ hJp (balloc hb23 _)
          have hnw : n1 ≤ W.heap.size := by have := gp.lt; have := hW.size; omega
          have hnw2 : n1 ≤ w2.heap.size := by have := HX.out.2.1.lt; omega
          have hG3 : GY n1 ⟨⟨Aq, kp + 1, cq, x + s.x, y + s.y, s.text⟩, s.kind, path ++ [s.id]⟩ (w3.alloc (.cells #[.int .i64 (x + s.x), .int .i64 (y + s.y)] 34)) := by
            have hpl : (path ++ [s.id]).length = kp + 1 := by rw [List.length_append, HKP.out]; rfl
            refine ⟨?_, hpl.symm⟩
            show World.ownsRow _ n1 3 1 (.slice Aq (kp + 1) cq) (path ++ [s.id]).length _
            rw [hpl]
            exact own_base (ho3.alloc _) hnw2
          have gY3 := ((gY.kee hK hnw).below hb23 (gY.kee hK hnw).lt).alloc (.cells #[.int .i64 (x + s.x), .int .i64 (y + s.y)] 34)
          obtain ⟨f0, -⟩ := gY3.all1
          refine (wpIn_wide (n := n)).1 ?_
          obtain ⟨fn, tmps, assign, body, hy, hR⟩ := HY.out pre ⟨⟨Aq, kp + 1, cq, x + s.x, y + s.y, s.text⟩, s.kind, path ++ [s.id]⟩ _ hJ3 hG3 (by rw [List.map_append, HPre.out]; exact List.IsPrefix.trans ⟨_, by rw [HSn.out, List.append_assoc]; rfl⟩ HTk.out)
          simp only [encY] at hy
          gi_wp2
          refine ⟨fun _ => by omega, hR.mono ?_⟩
          clear hR hy
          rintro e w5 (⟨rfl, hJ5, hK5⟩ | ⟨rfl, hJx5, hK5⟩)
          · have gX5 := (gX3.alloc (.cells #[.int .i64 (x + s.x), .int .i64 (y + s.y)] 34)).kee hK5 (by have := HX.out.2.2.2.2; omega)
            have gl5 := (gl3.alloc (.cells #[.int .i64 (x + s.x), .int .i64 (y + s.y)] 34)).kee hK5 hl1
            obtain ⟨m0, -⟩ := gl5.all1
            obtain ⟨s0, s1, s2, s3, s4, s5⟩ := gX5.allI
            have hll := gl5.lt
            have hxl5 := gX5.lt
            have hb05 : Below n0 w w5 := (((((hW.mono hn0w).trans (hb1.mono hnW)).trans hK.below).trans (hb23.mono (by omega))).trans ((balloc (Below.refl w3.heap.size w3) (.cells #[.int .i64 (x + s.x), .int .i64 (y + s.y)] 34)).mono (by have := hb23.size; omega))).trans hK5.below
            have hn05 : n0 ≤ w5.heap.size := Nat.le_trans hn0w hb05.size
            obtain ⟨r1, b1, hfv, hf1, hf2, hf3⟩ := (hmk.below hb05).itemsOf s.mod
            have hk5 := c_find A N cc rows s.mod w5 hNn ((hrm.below hb05).more hn05)
            rw [hfv] at hk5
            obtain ⟨id1, a1, n1', k1⟩ := r1
            dsimp only at hf1 hf2 hf3 hk5
            have HF := hide (And.intro hf1 (And.intro hf2 (And.intro hf3 hb05)))
            clear hfv hf1 hf2 hf3 hb05
            gi_wp2
            go_wp2_with fail
            refine hk5.mono ?_
            clear hk5
            rintro e w6 ⟨rfl, hb6⟩
            have gP5 := (Blk.new w3 34 [.int .i64 (x + s.x), .int .i64 (y + s.y)]).kee hK5 (by have := HX.out.2.1.lt; have := hb3.size; omega)
            have gP6 := gP5.below hb6 gP5.lt
            have gX6 := gX5.below hb6 gX5.lt
            have gl6 := gl5.below hb6 gl5.lt
            obtain ⟨m6, -⟩ := gl6.all1
            obtain ⟨p6, p7, _, _⟩ := gP6.all2
            have hl6 := gl6.lt
            have hp6 := gP6.lt
            have hb7 := balloc (Below.refl w6.heap.size w6) (.cells #[.int .i64 id1, .slice a1 n1' k1] 27)
            have hs56 := hb6.size
            have hs35 := hK5.below.size
            go_wp2_with fail
            refine (c_placed A a1 Aq N cc n1' k1 (kp + 1) cq (x + s.x) (y + s.y) _).mono ?_
            rintro e w8 ⟨rfl, hw8⟩
            generalize w6.alloc (.cells #[.int .i64 id1, .slice a1 n1' k1] 27) = w7 at *
            obtain ⟨hf1, hf2, hf3, hb05⟩ := HF.out
            have hb8 : Below w7.heap.size w7 w8 := by rw [hw8]; exact balloc (balloc (balloc (balloc (Below.refl _ _) _) _) _) _
            have g0 : Blk w8 w7.heap.size 42 [.slice A N cc] := by rw [hw8]; exact (((Blk.new w7 42 [.slice A N cc]).alloc _).alloc _).alloc _
            have g1 : Blk w8 (w7.heap.size + 1) 24 [.slice a1 n1' k1] := by
              rw [hw8]
              have := ((Blk.new (w7.alloc (.cells #[.slice A N cc] 42)) 24 [.slice a1 n1' k1]).alloc (.cells #[.slice Aq (kp + 1) cq] 28)).alloc (.cells #[.int .i64 (x + s.x), .int .i64 (y + s.y)] 34)
              simpa using this
            have g2 : Blk w8 (w7.heap.size + 1 + 1) 28 [.slice Aq (kp + 1) cq] := by
              rw [hw8]
              have := (Blk.new ((w7.alloc (.cells #[.slice A N cc] 42)).alloc (.cells #[.slice a1 n1' k1] 24)) 28 [.slice Aq (kp + 1) cq]).alloc (.cells #[.int .i64 (x + s.x), .int .i64 (y + s.y)] 34)
              simpa using this
            have g3 : Blk w8 (w7.heap.size + 1 + 1 + 1) 34 [.int .i64 (x + s.x), .int .i64 (y + s.y)] := by
              rw [hw8]
              have := Blk.new (((w7.alloc (.cells #[.slice A N cc] 42)).alloc (.cells #[.slice a1 n1' k1] 24)).alloc (.cells #[.slice Aq (kp + 1) cq] 28)) 34 [.int .i64 (x + s.x), .int .i64 (y + s.y)]
              simpa using this
            have hb58 : Below w5.heap.size w5 w8 := bthen (bthen hb6 hb7) hb8
            have hn05 : n0 ≤ w5.heap.size := by have := hb05.size; omega
            have hb08 : Below n0 w w8 := hb05.trans (hb58.mono hn05)
            have hn08 : n0 ≤ w8.heap.size := Nat.le_trans hn05 hb58.size
            have hs78 := hb8.size
            have hs67 := hb7.size
            have hs23 := hb3.size
            have hs58 := hb58.size
            have hs03 := hb23.size
            have hW08 : W.heap.size ≤ w8.heap.size := by have := hb1.size; have := HX.out.2.2.1.size; simp only [World.size_alloc] at hs35; omega
            have hn7 : n1 ≤ w7.heap.size := by omega
            have hnW8 : n1 ≤ w8.heap.size := by omega
            have ho8 : w8.ownsRow w2.heap.size 3 1 (.slice Aq (kp + 1) cq) (kp + 1) ((path ++ [s.id]).flatMap cN) := own_bel (own_kee (ho3.alloc _) hK5 hnw2) hb58
            have gY8 : Blk w8 W.heap.size 114 [.func (.yield l) #[] #[]] := (gY3.kee hK5 hnw).below hb58 (gY3.kee hK5 hnw).lt
            have hm3 := HM5.out.1.bel hb23
            have hm35 := (hm3.bel (balloc (Below.refl w3.heap.size w3) (.cells #[.int .i64 (x + s.x), .int .i64 (y + s.y)] 34))).kee hK5 hnw
            have hm8 := hm35.bel hb58
            have hdl := hm8.lt
            have HNd := hide HM5.out.2
            have hJ8 := ownJ hJ hJ5 hb58
            have hK18 : Kee n0 n1 W1 w8 := ((hK.trans (Kee.of_below (by omega) hb23)).trans (Kee.of_below (by omega) (balloc (Below.refl w3.heap.size w3) (.cells #[.int .i64 (x + s.x), .int .i64 (y + s.y)] 34)))).trans (hK5.trans (Kee.of_below hn05 hb58))
            have HSEQ := HIn.out a1 Aq n1' k1 (kp + 1) cq (w7.heap.size + 1) (w7.heap.size + 1 + 1) (w7.heap.size + 1 + 1 + 1) w7.heap.size w8
              ⟨⟨by omega, by omega, by omega, by omega⟩, ⟨g1, g2, g3, g0⟩, ⟨RdK.old (hf3.below (hb58.mono hn05)) hn08, RdK.own ho8 hnw2, hrm.below hb08, hmk.below hb08⟩, ⟨by omega, (own_row ho8).1, (own_row ho8).2.1⟩⟩
            have hSEQ := hide HSEQ
            clear HSEQ g0 g1 g2 g3 hb8 hw8 hb7 hb6 gX6 gl6 m6 p6 p7 gP6 gP5 gX5 gl5 gX3 ga3 gl3 a0 s0 s1 s2 s3 s4 s5 m0 hK5 hm3 hm35 ho3 hf1 hf2 hf3 hb05 hb23 hb3
            go_wp2_with fail
            generalize hxv : (⟨⟨Aq, kp + 1, cq, x + s.x, y + s.y, s.text⟩, s.kind, path ++ [s.id]⟩ : Yi) = xv at *
            refine (wpIn_wide (n := n + 1)).1 (range_G (α := Yi) rfl (by omega) (gf := 66) (lb := #[.pointer (some ⟨w7.heap.size + 1, 0, none⟩), .pointer (some ⟨w7.heap.size + 1 + 1, 0, none⟩), .pointer (some ⟨w7.heap.size + 1 + 1 + 1, 0, none⟩), .pointer (some ⟨w7.heap.size, 0, none⟩)]) rfl trivial (enters_of Try.func66 (by kernel_rfl) rfl)
              hn08 hnW8 hSEQ.out (Below.refl _ _) (fun _ => rfl) (fun ys X => J (pre ++ [xv] ++ ys) X ∧ Kee n0 n1 w8 X) (fun ys X => Jx (pre ++ [xv] ++ ys) X ∧ MarksOk W.heap.size X Ds) ?hI ?hIx ?h0 (AxPl n1 W.heap.size w8.heap.size) ?hAx ?assign ?body ?done ?stop)
            case hI => exact fun ys X Y row h hg hr => ⟨ownFrom_up hJ hW08 h.1 hg hr, h.2.grown hg (fun r e => (hr r e).1) hn08⟩
            case hIx => exact fun ys X Y row h hg hr => ⟨ownFrom_up hJx hW08 h.1 hg hr, own_marks h.2 hg (fun r e => (hr r e).1) hdl⟩
            case h0 => exact ⟨by rw [List.append_nil]; exact hJ8, Kee.refl _ _ _⟩
            case hAx =>
              rintro v a' _ X Y row ⟨Bx, u0, u1, u2, u3, u4, u6, u7, u8, u9, u10, u11, u14, u15, u16, u17, u18, u19, u20, u21, u22, u23, u24, u25, u26, u27, u28, u29, u30, u31, u32, u33, u34, u35, u36, u37, u38, u39, u40, u41, u42, u43, u44, u45, u46, u47, u48, u49, u50, u51, u52, u53, u54, u55, u56, u57, u58, u59, u60, u61, u62, u63, u64, u65, u66, u67, u68, u69, u70, u71, u72, u73, ha, hBx, hblk, hG1, hG2⟩ hg hr
              exact ⟨Bx, u0, u1, u2, u3, u4, u6, u7, u8, u9, u10, u11, u14, u15, u16, u17, u18, u19, u20, u21, u22, u23, u24, u25, u26, u27, u28, u29, u30, u31, u32, u33, u34, u35, u36, u37, u38, u39, u40, u41, u42, u43, u44, u45, u46, u47, u48, u49, u50, u51, u52, u53, u54, u55, u56, u57, u58, u59, u60, u61, u62, u63, u64, u65, u66, u67, u68, u69, u70, u71, u72, u73, ha, hBx, hblk.non hg (fun r e => (hr r e).2), own_non hG1 hg (fun r e => (hr r e).2), hG2⟩
            case assign =>
              intro lp pre' v X K' hIn hG hK'
              simp only [encY]
              gi_wp2
              have hs := (Kee.of_below (n1 := n1) (Nat.le_trans hn08 hIn.2.below.size) (balloc (Below.refl X.heap.size X) (.cells (cP v.r).toArray 62)))
              exact hK' _ _ hs ⟨ownJ hJ hIn.1 (balloc (Below.refl X.heap.size X) (.cells (cP v.r).toArray 62)), hIn.2.trans hs⟩ ⟨X.heap.size, _, _, _, _, _, _, _, _, _, _, _, _, _, _, _, _, _, _, _, _, _, _, _, _, _, _, _, _, _, _, _, _, _, _, _, _, _, _, _, _, _, _, _, _, _, _, _, _, _, _, _, _, _, _, _, _, _, _, _, _, _, _, _, _, _, _, _, _, _, _, _, rfl, hIn.2.below.size, Blk.new X 62 (cP v.r), own_bel hG.1 (balloc (Below.refl X.heap.size X) (.cells (cP v.r).toArray 62)), hG.2⟩
            case body =>
              rintro lp pre' v a' X hlp ⟨rc, hrc⟩ ⟨hJI, hKI⟩ ⟨Bx, u0, u1, u2, u3, u4, u6, u7, u8, u9, u10, u11, u14, u15, u16, u17, u18, u19, u20, u21, u22, u23, u24, u25, u26, u27, u28, u29, u30, u31, u32, u33, u34, u35, u36, u37, u38, u39, u40, u41, u42, u43, u44, u45, u46, u47, u48, u49, u50, u51, u52, u53, u54, u55, u56, u57, u58, u59, u60, u61, u62, u63, u64, u65, u66, u67, u68, u69, u70, u71, u72, u73, rfl, hBx, hblk, hG⟩ hlt
              have gYI := gY8.kee hKI hnw
              obtain ⟨f0, -⟩ := gYI.all1
              obtain ⟨z0, z1, z2, z3⟩ := hblk.allP
              have hxl := hblk.lt
              have hsl := gYI.lt
              have hlen : (pre ++ [xv] ++ pre' ++ [v]).map ofY <+: plc ms (f + 1) items path x y := by
                have e1 : (pre ++ [xv] ++ pre' ++ [v]).map ofY = plc ms (f + 1) (items.take k) path x y ++ (ofY xv :: (pre' ++ [v]).map ofY) := by
                  rw [List.append_assoc, List.map_append, List.map_append, HPre.out, List.append_assoc]
                  rfl
                rw [e1]
                refine List.IsPrefix.trans ?_ HTk.out
                rw [HSn.out]
                refine List.prefix_append_right_inj _ |>.2 ?_
                rw [← hxv]
                exact List.prefix_cons_inj _ |>.2 hlt
              obtain ⟨fn, tmps, assign, body, hy, hR⟩ := HY.out (pre ++ [xv] ++ pre') v X hJI hG hlen
              simp only [encY] at hy
              unfold frRd
              gi_wp2
              refine ⟨fun _ => by omega, (roundIn_wide (l' := lp) (m := n + 1 - 1 - 1 - 1) hR).mono ?_⟩
              clear hR hy
              rintro e w' (⟨rfl, hJ', hK'⟩ | ⟨rfl, hx', hK'⟩)
              · gi_wp2
                exact ⟨hK', by rw [← List.append_assoc]; exact hJ', hKI.trans hK'⟩
              · gi_wp2
                exact ⟨hK'.up (by omega), by rw [← List.append_assoc]; exact hx', (hm8.kee hKI hnw).kee hK' (by omega)⟩
            case done =>
              rintro Dm ys X hDm hys ⟨hJI, hKI⟩ hKm
              have HF := hide (And.intro hJI (And.intro hKI (And.intro hKm hys)))
              clear hJI hKI hKm hys
              go_wp2
              obtain ⟨hJI, hKI, hKm, hys⟩ := HF.out
              refine Handed.intro (ni - (k + 1)) ?_ (hJJ _ _ _ ⟨k + 1, pre ++ [xv] ++ ys, Dm :: Ds, _, _, _, _, _, _, _, _, _, _, _, _, _, _, _, _, _, _, _, _, _, _, _, _, _, _, _, _, _, _, _, _, _, _, _, _, _, _, _, _, _, _, _, _, _, _, _, _, _, _, _, _, _, _, _, rfl, rfl, hlt, ?_, hJI, hK18.trans hKI, ?_, ?_⟩)
              · omega
              · rw [← hT]
                dsimp only
                rw [List.map_append, List.map_append, HPre.out, hys, HSn.out, ← hxv, List.append_assoc]
                rfl
              · intro D hD
                rcases List.mem_cons.1 hD with rfl | hD
                · exact ⟨by omega, hKm⟩
                · exact (hm8.kee hKI hnw) D hD
              · exact List.nodup_cons.2 ⟨fun hd => by have := hdl Dm hd; omega, HNd.out⟩
            case stop =>
              rintro Dm pre' X hDm ⟨hxI, hmI⟩ hKm
              refine (wpIn_wide (n := n + 1)).2 ?_
              have HF := hide (And.intro hxI (And.intro hmI hKm))
              clear hxI hmI hKm
              go_wp2
              obtain ⟨hxI, hmI, hKm⟩ := HF.out
              refine leaves_marksT (B := W.heap.size) (T := fun V => ∃ p, Jx p V) (fun V D hD hd ⟨p, hp⟩ => ⟨p, hJx.putObj _ hp hD hd rfl⟩) (Dm :: Ds) _ ?_ (List.nodup_cons.2 ⟨fun hd => by have := hdl Dm hd; omega, HNd.out⟩) ⟨_, hxI⟩ (fun W' hW' => ⟨_, results_none rfl _ _ _, ⟨_, rfl⟩, .inr hW'⟩)
              intro D hD
              rcases List.mem_cons.1 hD with rfl | hD
              · exact ⟨by omega, hKm⟩
              · exact hmI D hD
          · have hm3 := HM5.out.1.bel hb23
            have hm35 := (hm3.bel (balloc (Below.refl w3.heap.size w3) (.cells #[.int .i64 (x + s.x), .int .i64 (y + s.y)] 34))).kee hK5 (by omega)
            have HF := hide (And.intro hJx5 (And.intro hm35 HM5.out.2))
            clear hm3 hm35 hJx5
            gi_wp2
            go_wp2_with fail
            obtain ⟨hJx5, hm35, hnd⟩ := HF.out
            exact leaves_marksT (B := W.heap.size) (T := fun V => ∃ p, Jx p V) (fun V D hD hd ⟨p, hp⟩ => ⟨p, hJx.putObj _ hp hD hd rfl⟩) Ds _ hm35 hnd ⟨_, hJx5⟩ (fun W' hW' => ⟨_, results_none rfl _ _ _, ⟨_, rfl⟩, .inr hW'⟩)
      · have hkn : k = ni := by omega
        subst hkn
        have htk : items.take k = items := List.take_of_length_le (by have := HL.out; omega)
        rw [htk] at hpre
        have HF := hide (And.intro hJp hpre)
        clear hJp hpre
        go_wp2_with fail
        obtain ⟨hJp, hpre⟩ := HF.out
        exact leaves_marksT (B := W.heap.size) (T := fun V => ∃ xs : List Yi, xs.map ofY = plc ms (f + 1) items path x y ∧ J xs V) (fun V D hD hd ⟨p, hp1, hp⟩ => ⟨p, hp1, hJ.putObj _ hp hD hd rfl⟩) Ds _ HM5.out.1 HM5.out.2 ⟨_, hpre, hJp⟩ (fun W' hW' => ⟨_, results_none rfl _ _ _, ⟨_, rfl⟩, .inl hW'⟩)
end Go.Proofs.Ytncdombfhcfobaa

/- Replica: the reference's small functions: Formed, listed, Before, Find, SameRecords, Same. -/
import Derived.Test.YtcfbgelhggapjaaGreatDoorProg
import Derived.Test.YtcfbgelhggapjaaGreatDoorQ1
import Derived.Deep.RegionHeld3
import Derived.Laws.Closers25b
import Derived.Shelf.Abstract
import Derived.IntWalk
import Derived.BigQuiet
import Derived.Deep.QuietTactic
namespace Go.Proofs.YtcfbgelhggapjaaGreatDoor
open Go.RowKit Go.Shelf
set_option linter.unusedSimpArgs false in
set_option maxHeartbeats 4000000 in
set_option maxRecDepth 100000 in
set_option maxHeartbeats 4000000 in
theorem c_rFormed (s : Rc) (w : World) : Calls Tryz.prog 56 #[rcV s] w fun e w' => e = .returned (.bool (fmB s)) ∧ Below w.heap.size w w' := by
  have hb := balloc (Below.refl w.heap.size w) (.cells #[.int .i64 s.pen, .int .i64 s.num, .int .i64 s.at_, .int .i64 s.of, .int .i64 s.which, .int .i64 s.kind, .string s.text] 49)
  unfold rcV
  by_cases h0 : 0 ≤ s.pen
  · by_cases h1 : s.pen ≤ 39
    · by_cases h2 : 1 ≤ s.num
      · by_cases h3 : s.num ≤ 150
        · by_cases h4 : 0 ≤ s.at_
          · by_cases h5 : s.at_ ≤ 1000000
            · by_cases h6 : 0 ≤ s.kind
              · by_cases h7 : s.kind ≤ 15
                · by_cases h8 : s.text.size ≤ 4000
                  · by_cases g1 : s.of = -1
                    · by_cases g2 : s.which = 0
                      · have H := hide (show fmB s = true by unfold fmB rootB inB; first | (simp [h0, h1, h2, h3, h4, h5, h6, h7, h8, g1, g2]; done) | (simp [h0, h1, h2, h3, h4, h5, h6, h7, h8, g1, g2]; omega) | (simp [h0, h1, h2, h3, h4, h5, h6, h7, h8, g1, g2]; intros; omega))
                        have dg1 : (s.of == -1) = true := by simp [g1]
                        clear g1
                        have dg2 : (s.which == 0) = true := by simp [g2]
                        clear g2
                        go_enter Tryz.func56, Tryz.ntmps56
                        go_wp2_with fail
                        go_ret
                        exact ⟨ret_bool H.out.symm, hb⟩
                      · have hneg : ¬ (0 : Int) ≤ s.of := by omega
                        have H := hide (show fmB s = false by unfold fmB rootB inB; first | (simp [h0, h1, h2, h3, h4, h5, h6, h7, h8, g1, g2]; done) | (simp [h0, h1, h2, h3, h4, h5, h6, h7, h8, g1, g2]; omega) | (simp [h0, h1, h2, h3, h4, h5, h6, h7, h8, g1, g2]; intros; omega))
                        have dg1 : (s.of == -1) = true := by simp [g1]
                        clear g1
                        have dg2 : (s.which == 0) = false := by simp [g2]
                        clear g2
                        go_enter Tryz.func56, Tryz.ntmps56
                        go_wp2_with fail
                        go_ret
                        exact ⟨ret_bool H.out.symm, hb⟩
                    · by_cases k0 : 0 ≤ s.of
                      · by_cases k1 : s.of ≤ 39
                        · by_cases k2 : 1 ≤ s.which
                          · by_cases k3 : s.which ≤ 150
                            · by_cases k4 : s.of = s.pen
                              · by_cases k5 : s.which = s.num
                                · have H := hide (show fmB s = false by unfold fmB rootB inB; first | (simp [h0, h1, h2, h3, h4, h5, h6, h7, h8, g1, k0, k1, k2, k3, k4, k5]; done) | (simp [h0, h1, h2, h3, h4, h5, h6, h7, h8, g1, k0, k1, k2, k3, k4, k5]; omega) | (simp [h0, h1, h2, h3, h4, h5, h6, h7, h8, g1, k0, k1, k2, k3, k4, k5]; intros; omega))
                                  have dg1 : (s.of == -1) = false := by simp [g1]
                                  clear g1
                                  have dk4 : (s.of != s.pen) = false := by simp [k4]
                                  clear k4
                                  have dk5 : (s.which != s.num) = false := by simp [k5]
                                  clear k5
                                  go_enter Tryz.func56, Tryz.ntmps56
                                  go_wp2_with fail
                                  go_ret
                                  exact ⟨ret_bool H.out.symm, hb⟩
                                · have H := hide (show fmB s = true by unfold fmB rootB inB; first | (simp [h0, h1, h2, h3, h4, h5, h6, h7, h8, g1, k0, k1, k2, k3, k4, k5]; done) | (simp [h0, h1, h2, h3, h4, h5, h6, h7, h8, g1, k0, k1, k2, k3, k4, k5]; omega) | (simp [h0, h1, h2, h3, h4, h5, h6, h7, h8, g1, k0, k1, k2, k3, k4, k5]; intros; omega))
                                  have dg1 : (s.of == -1) = false := by simp [g1]
                                  clear g1
                                  have dk4 : (s.of != s.pen) = false := by simp [k4]
                                  clear k4
                                  have dk5 : (s.which != s.num) = true := by simp [k5]
                                  clear k5
                                  go_enter Tryz.func56, Tryz.ntmps56
                                  go_wp2_with fail
                                  go_ret
                                  exact ⟨ret_bool H.out.symm, hb⟩
                              · have H := hide (show fmB s = true by unfold fmB rootB inB; first | (simp [h0, h1, h2, h3, h4, h5, h6, h7, h8, g1, k0, k1, k2, k3, k4]; done) | (simp [h0, h1, h2, h3, h4, h5, h6, h7, h8, g1, k0, k1, k2, k3, k4]; omega) | (simp [h0, h1, h2, h3, h4, h5, h6, h7, h8, g1, k0, k1, k2, k3, k4]; intros; omega))
                                have dg1 : (s.of == -1) = false := by simp [g1]
                                clear g1
                                have dk4 : (s.of != s.pen) = true := by simp [k4]
                                clear k4
                                go_enter Tryz.func56, Tryz.ntmps56
                                go_wp2_with fail
                                go_ret
                                exact ⟨ret_bool H.out.symm, hb⟩
                            · have H := hide (show fmB s = false by unfold fmB rootB inB; first | (simp [h0, h1, h2, h3, h4, h5, h6, h7, h8, g1, k0, k1, k2, k3]; done) | (simp [h0, h1, h2, h3, h4, h5, h6, h7, h8, g1, k0, k1, k2, k3]; omega) | (simp [h0, h1, h2, h3, h4, h5, h6, h7, h8, g1, k0, k1, k2, k3]; intros; omega))
                              have dg1 : (s.of == -1) = false := by simp [g1]
                              clear g1
                              go_enter Tryz.func56, Tryz.ntmps56
                              go_wp2_with fail
                              go_ret
                              exact ⟨ret_bool H.out.symm, hb⟩
                          · have H := hide (show fmB s = false by unfold fmB rootB inB; first | (simp [h0, h1, h2, h3, h4, h5, h6, h7, h8, g1, k0, k1, k2]; done) | (simp [h0, h1, h2, h3, h4, h5, h6, h7, h8, g1, k0, k1, k2]; omega) | (simp [h0, h1, h2, h3, h4, h5, h6, h7, h8, g1, k0, k1, k2]; intros; omega))
                            have dg1 : (s.of == -1) = false := by simp [g1]
                            clear g1
                            go_enter Tryz.func56, Tryz.ntmps56
                            go_wp2_with fail
                            go_ret
                            exact ⟨ret_bool H.out.symm, hb⟩
                        · have H := hide (show fmB s = false by unfold fmB rootB inB; first | (simp [h0, h1, h2, h3, h4, h5, h6, h7, h8, g1, k0, k1]; done) | (simp [h0, h1, h2, h3, h4, h5, h6, h7, h8, g1, k0, k1]; omega) | (simp [h0, h1, h2, h3, h4, h5, h6, h7, h8, g1, k0, k1]; intros; omega))
                          have dg1 : (s.of == -1) = false := by simp [g1]
                          clear g1
                          go_enter Tryz.func56, Tryz.ntmps56
                          go_wp2_with fail
                          go_ret
                          exact ⟨ret_bool H.out.symm, hb⟩
                      · have H := hide (show fmB s = false by unfold fmB rootB inB; first | (simp [h0, h1, h2, h3, h4, h5, h6, h7, h8, g1, k0]; done) | (simp [h0, h1, h2, h3, h4, h5, h6, h7, h8, g1, k0]; omega) | (simp [h0, h1, h2, h3, h4, h5, h6, h7, h8, g1, k0]; intros; omega))
                        have dg1 : (s.of == -1) = false := by simp [g1]
                        clear g1
                        go_enter Tryz.func56, Tryz.ntmps56
                        go_wp2_with fail
                        go_ret
                        exact ⟨ret_bool H.out.symm, hb⟩
                  · have H := hide (show fmB s = false by unfold fmB rootB inB; first | (simp [h0, h1, h2, h3, h4, h5, h6, h7, h8]; done) | (simp [h0, h1, h2, h3, h4, h5, h6, h7, h8]; omega) | (simp [h0, h1, h2, h3, h4, h5, h6, h7, h8]; intros; omega))
                    go_enter Tryz.func56, Tryz.ntmps56
                    go_wp2_with fail
                    go_ret
                    exact ⟨ret_bool H.out.symm, hb⟩
                · have H := hide (show fmB s = false by unfold fmB rootB inB; first | (simp [h0, h1, h2, h3, h4, h5, h6, h7]; done) | (simp [h0, h1, h2, h3, h4, h5, h6, h7]; omega) | (simp [h0, h1, h2, h3, h4, h5, h6, h7]; intros; omega))
                  go_enter Tryz.func56, Tryz.ntmps56
                  go_wp2_with fail
                  go_ret
                  exact ⟨ret_bool H.out.symm, hb⟩
              · have H := hide (show fmB s = false by unfold fmB rootB inB; first | (simp [h0, h1, h2, h3, h4, h5, h6]; done) | (simp [h0, h1, h2, h3, h4, h5, h6]; omega) | (simp [h0, h1, h2, h3, h4, h5, h6]; intros; omega))
                go_enter Tryz.func56, Tryz.ntmps56
                go_wp2_with fail
                go_ret
                exact ⟨ret_bool H.out.symm, hb⟩
            · have H := hide (show fmB s = false by unfold fmB rootB inB; first | (simp [h0, h1, h2, h3, h4, h5]; done) | (simp [h0, h1, h2, h3, h4, h5]; omega) | (simp [h0, h1, h2, h3, h4, h5]; intros; omega))
              go_enter Tryz.func56, Tryz.ntmps56
              go_wp2_with fail
              go_ret
              exact ⟨ret_bool H.out.symm, hb⟩
          · have H := hide (show fmB s = false by unfold fmB rootB inB; first | (simp [h0, h1, h2, h3, h4]; done) | (simp [h0, h1, h2, h3, h4]; omega) | (simp [h0, h1, h2, h3, h4]; intros; omega))
            go_enter Tryz.func56, Tryz.ntmps56
            go_wp2_with fail
            go_ret
            exact ⟨ret_bool H.out.symm, hb⟩
        · have H := hide (show fmB s = false by unfold fmB rootB inB; first | (simp [h0, h1, h2, h3]; done) | (simp [h0, h1, h2, h3]; omega) | (simp [h0, h1, h2, h3]; intros; omega))
          go_enter Tryz.func56, Tryz.ntmps56
          go_wp2_with fail
          go_ret
          exact ⟨ret_bool H.out.symm, hb⟩
      · have H := hide (show fmB s = false by unfold fmB rootB inB; first | (simp [h0, h1, h2]; done) | (simp [h0, h1, h2]; omega) | (simp [h0, h1, h2]; intros; omega))
        go_enter Tryz.func56, Tryz.ntmps56
        go_wp2_with fail
        go_ret
        exact ⟨ret_bool H.out.symm, hb⟩
    · have H := hide (show fmB s = false by unfold fmB rootB inB; first | (simp [h0, h1]; done) | (simp [h0, h1]; omega) | (simp [h0, h1]; intros; omega))
      go_enter Tryz.func56, Tryz.ntmps56
      go_wp2_with fail
      go_ret
      exact ⟨ret_bool H.out.symm, hb⟩
  · have H := hide (show fmB s = false by unfold fmB rootB inB; first | (simp [h0]; done) | (simp [h0]; omega) | (simp [h0]; intros; omega))
    go_enter Tryz.func56, Tryz.ntmps56
    go_wp2_with fail
    go_ret
    exact ⟨ret_bool H.out.symm, hb⟩
end Go.Proofs.YtcfbgelhggapjaaGreatDoor

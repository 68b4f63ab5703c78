/- The law MirrorBoth: plain part, behind. -/
import Derived.Test.YthhdejjjcaamiaaGreatDoorClapR2
set_option linter.unusedVariables false
set_option linter.unusedSimpArgs false
set_option maxRecDepth 1000000
set_option maxHeartbeats 4000000
namespace Go.Clap

theorem tw_p0 {a b m n : Int} (ha : a ∈ dig) (hb : b ∈ dig) (hm : m ∈ dig) (hn : n ∈ dig) : f1070 12 0 (V.mk 6 0 ee [(aa, V.mk 2 m ee [])]) (V.mk 6 0 ee [(bb, V.mk 2 n ee [])]) [] 6 ee 0 0 ee pp 4 bb ee [] 0 0 0 0 2 7 ee [] [] [] 4 aa ee [] 0 0 0 0 2 0 ee [] [] [] 6 0 ee (fs a b) 0 0 = some (rc m n, 0) := by
  unfold f1070
  simp only [uw10]
  rw [put0_p ha hb hm]
  simp only [ob, sb_inr, un00, cond_false]
  rw [put1_p hm hb hn]
  rfl
theorem tw_p1 {a b m n : Int} (ha : a ∈ dig) (hb : b ∈ dig) (hm : m ∈ dig) (hn : n ∈ dig) : f1070 12 1 (V.mk 6 0 ee [(bb, V.mk 2 n ee [])]) (V.mk 6 0 ee [(aa, V.mk 2 m ee [])]) [] 6 ee 0 0 ee pp 4 bb ee [] 0 0 0 0 2 7 ee [] [] [] 4 aa ee [] 0 0 0 0 2 0 ee [] [] [] 6 0 ee (fs a b) 0 0 = some (rc m n, 0) := by
  unfold f1070
  simp only [uw11]
  rw [put1_p ha hb hn]
  simp only [ob, sb_inr, un00, cond_false]
  rw [put0_p ha hn hm]
  rfl
theorem tw_q0 {a b m n : Int} (ha : a ∈ dig) (hb : b ∈ dig) (hm : m ∈ dig) (hn : n ∈ dig) : f1070 12 0 (V.mk 6 0 ee [(aa, V.mk 2 m ee [])]) (V.mk 6 0 ee [(aa, V.mk 2 n ee [])]) [] 6 ee 0 0 ee pp 4 bb ee [] 0 0 0 0 2 7 ee [] [] [] 4 bb ee [] 0 0 0 0 2 7 ee [] [] [] 6 0 ee (fs a b) 0 0 = some (rc n b, 0) := by
  unfold f1070
  simp only [uw10]
  rw [put0_q ha hb hm]
  simp only [ob, sb_inr, un00, cond_false]
  rw [put1_q hm hb hn]
  rfl
theorem tw_q1 {a b m n : Int} (ha : a ∈ dig) (hb : b ∈ dig) (hm : m ∈ dig) (hn : n ∈ dig) : f1070 12 1 (V.mk 6 0 ee [(aa, V.mk 2 n ee [])]) (V.mk 6 0 ee [(aa, V.mk 2 m ee [])]) [] 6 ee 0 0 ee pp 4 bb ee [] 0 0 0 0 2 7 ee [] [] [] 4 bb ee [] 0 0 0 0 2 7 ee [] [] [] 6 0 ee (fs a b) 0 0 = some (rc m b, 0) := by
  unfold f1070
  simp only [uw11]
  rw [put1_q ha hb hn]
  simp only [ob, sb_inr, un00, cond_false]
  rw [put0_q hn hb hm]
  rfl
theorem both_p {a b m n : Int} (ha : a ∈ dig) (hb : b ∈ dig) (hm : m ∈ dig) (hn : n ∈ dig) : f1069 12 (V.mk 6 0 ee [(aa, V.mk 2 m ee [])]) (V.mk 6 0 ee [(bb, V.mk 2 n ee [])]) [] 6 ee 0 0 ee pp 4 bb ee [] 0 0 0 0 2 7 ee [] [] [] 4 aa ee [] 0 0 0 0 2 0 ee [] [] [] 6 0 ee (fs a b) 0 0 = some (0, 6, 0, ee, fs m n, 1, 1) := by
  unfold f1069
  dsimp only
  rw [tw_p0 ha hb hm hn, tw_p1 ha hb hm hn]
  simp only [ob, sb_inr, un00, cond_false]
  rw [same_r m hm n hn]
  simp only [ob, cond_true]
  rw [f1069_L2]
  simp only [show ((0 : Nat) : Int) = 0 from rfl]
  rw [vw0_p hm hn]
  simp only [ob, un00, cond_false]
  rw [same_p m hm]
  simp only [ob, cond_true]
  rw [f1069_L2]
  simp only [show ((0 + 1 : Nat) : Int) = 1 from rfl]
  rw [vw1_p hm hn]
  simp only [ob, un00, cond_false]
  rw [same_q n hn]
  simp only [ob, cond_true]
  rw [f1069_L2]
  simp only [sb_inr, uw01]
theorem both_q {a b m n : Int} (ha : a ∈ dig) (hb : b ∈ dig) (hm : m ∈ dig) (hn : n ∈ dig) : f1069 12 (V.mk 6 0 ee [(aa, V.mk 2 m ee [])]) (V.mk 6 0 ee [(aa, V.mk 2 n ee [])]) [] 6 ee 0 0 ee pp 4 bb ee [] 0 0 0 0 2 7 ee [] [] [] 4 bb ee [] 0 0 0 0 2 7 ee [] [] [] 6 0 ee (fs a b) 0 0 = some (if n = m then (0, 6, 0, ee, fs n b, 1, 1) else (17, 6, 0, ee, fs a b, 0, 0)) := by
  unfold f1069
  dsimp only
  rw [tw_q0 ha hb hm hn, tw_q1 ha hb hm hn]
  simp only [ob, sb_inr, un00, cond_false]
  rw [same_n n hn b hb m hm]
  by_cases h : n = m
  · subst h
    simp only [ob, decide_true, cond_true, if_true]
    rw [f1069_L2]
    simp only [show ((0 : Nat) : Int) = 0 from rfl]
    rw [vw0_q hn hb]
    simp only [ob, un00, cond_false]
    rw [same_p n hn]
    simp only [ob, cond_true]
    rw [f1069_L2]
    simp only [show ((0 + 1 : Nat) : Int) = 1 from rfl]
    rw [vw1_q hn hb]
    simp only [ob, un00, cond_false]
    rw [same_p n hn]
    simp only [ob, cond_true]
    rw [f1069_L2]
    simp only [sb_inr, uw01]
  · simp only [ob, h, decide_false, cond_false, if_false]
theorem src {a b c d : Int} (ha : a ∈ dig) (hb : b ∈ dig) : f1071 12 [] 6 ee 0 0 ee pp 4 bb ee [] 0 0 0 0 2 7 ee [] [] [] 4 bb ee [] 0 0 0 0 2 7 ee [] [] [] 6 0 ee (fs a b) c d = some (rc a b) := by
  unfold f1071
  dsimp only
  rw [copy_r a ha b hb]
  rfl
theorem src' {a b c d : Int} (ha : a ∈ dig) (hb : b ∈ dig) : f1071 12 [] 6 ee 0 0 ee pp 4 bb ee [] 0 0 0 0 2 7 ee [] [] [] 4 aa ee [] 0 0 0 0 2 0 ee [] [] [] 6 0 ee (fs a b) c d = some (rc a b) := by
  unfold f1071
  dsimp only
  rw [copy_r a ha b hb]
  rfl
theorem below10 (x : Int) : ∃ y ∈ dig, f26 x 10 = some y := by
  unfold f26
  dsimp only
  rw [grdP, if_pos (by decide)]
  have h1 : Int.tmod x 10 < 10 ∧ -10 < Int.tmod x 10 := ⟨Int.tmod_lt_of_pos x (by decide), by have := Int.lt_tmod_of_pos x (by decide : (0 : Int) < 10); omega⟩
  generalize Int.tmod x 10 = r at h1
  have hm : ∀ y : Int, 0 ≤ y → y < 10 → y ∈ dig := fun y h0 h1 => by
    have : y = 0 ∨ y = 1 ∨ y = 2 ∨ y = 3 ∨ y = 4 ∨ y = 5 ∨ y = 6 ∨ y = 7 ∨ y = 8 ∨ y = 9 := by omega
    simp only [dig, List.mem_cons, List.not_mem_nil, or_false]
    exact this
  by_cases h : r < 0
  · refine ⟨r + 10, hm _ (by omega) (by omega), ?_⟩
    simp only [h, decide_true, cond_true]
    congr 1
    rw [IntKind.wrap_i64]
    omega
  · refine ⟨r, hm _ (by omega) (by omega), ?_⟩
    simp only [h, decide_false, cond_false]

theorem mirror_true (a b m n : Int) : f1028 12 a b m n = some true := by
  obtain ⟨a', ha, ea⟩ := below10 a
  obtain ⟨b', hb, eb⟩ := below10 b
  obtain ⟨m', hm, em⟩ := below10 m
  obtain ⟨n', hn, en⟩ := below10 n
  unfold f1028
  dsimp only
  rw [ea, eb, em, en]
  simp only [ob, sb_inr]
  have e1 : f325 = some (dp bb 7) := rfl
  have e2 : f44 0 = some (nm 0) := rfl
  have e3 : f1029 = some pr := rfl
  have e4 : ∀ x y, f30 x y = some (rc x y) := fun _ _ => rfl
  have e5 : ∀ s x, f1068 s x = some (on s x) := fun _ _ => rfl
  rw [e1, e2, e3]
  simp only [ob, sb_inr]
  simp only [e4, ob, sb_inr]
  rw [new_p a' ha b' hb, new_q a' ha b' hb]
  simp only [ob, sb_inr]
  rw [pd]
  simp only [ob, sb_inr, un00, cond_true, cond_false, e5]
  rw [both_p ha hb hm hn]
  simp only [ob, sb_inr]
  rw [both_q ha hb hm hn]
  simp only [ob, sb_inr]
  by_cases h : n' = m'
  · subst h
    simp only [if_true, beq_self_eq_true, cond_true, show ((0 : Int) == 17) = false from rfl, cond_false, sb_inr, ub00]
    rw [src hn hb]
    simp only [ob]
    rw [same_r n' hn b' hb]
    simp only [ob, sb_inr, cond_true]
    rw [src' hn hn]
    simp only [ob]
    rw [same_r n' hn n' hn]
    rfl
  · have h2 : (m' == n') = false := by simpa using fun e => h e.symm
    simp only [if_neg h, h2, cond_false, show ((17 : Int) == 17) = true from rfl, cond_true]
    rw [src ha hb]
    simp only [ob]
    rw [same_r a' ha b' hb]
    simp only [ob, sb_inr, cond_true, ub00]
    rw [src' hm hn]
    simp only [ob]
    rw [same_r m' hm n' hn]
    rfl
end Go.Clap

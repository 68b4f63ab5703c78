/- The law MirrorBoth: plain part. -/
import Derived.Test.YthhdejjjcaamiaaGreatDoorClapR1
set_option linter.unusedVariables false
set_option linter.unusedSimpArgs false
set_option maxRecDepth 1000000
set_option maxHeartbeats 4000000
namespace Go.Clap

theorem sb_inr {τ ο : Type} (x : ο) (f : ο → Option τ) : sbind (some (.inr x)) f = f x := rfl
theorem ob {α β : Type} (x : α) (f : α → Option β) : (some x).bind f = f x := rfl
theorem copy_r : ∀ a ∈ dig, ∀ b ∈ dig, f57 12 (V.mk 6 0 ee [(aa, V.mk 2 a ee []), (bb, V.mk 2 b ee [])]) = some (rc a b) := tab2 (by kernel_rfl)
theorem same_n : ∀ a ∈ dig, ∀ b ∈ dig, ∀ c ∈ dig, f11 12 (rc a b) (rc c b) = some (decide (a = c)) := tab3 (by kernel_rfl)
theorem same_r : ∀ a ∈ dig, ∀ b ∈ dig, f11 12 (rc a b) (rc a b) = some true := tab2 (by kernel_rfl)
theorem same_o : ∀ a ∈ dig, ∀ b ∈ dig, f11 12 (on aa a) (on aa b) = some (decide (a = b)) := tab2 (by kernel_rfl)
theorem same_p : ∀ a ∈ dig, f11 12 (on aa a) (on aa a) = some true := tab1 (by kernel_rfl)
theorem same_q : ∀ a ∈ dig, f11 12 (on bb a) (on bb a) = some true := tab1 (by kernel_rfl)
theorem pd : f1057 12 = some true := by kernel_rfl
theorem new_p : ∀ a ∈ dig, ∀ b ∈ dig, f1030 12 [] 6 ee 0 0 ee pp 4 bb ee [] 0 0 0 0 2 7 ee [] [] [] 4 aa ee [] 0 0 0 0 2 0 ee [] [] [] (rc a b) = some (0, [], 6, ee, 0, 0, ee, pp, 4, bb, ee, [], 0, 0, 0, 0, 2, 7, ee, [], [], [], 4, aa, ee, [], 0, 0, 0, 0, 2, 0, ee, [], [], [], 6, 0, ee, fs a b, 0, 0) := tab2 (by kernel_rfl)
theorem new_q : ∀ a ∈ dig, ∀ b ∈ dig, f1030 12 [] 6 ee 0 0 ee pp 4 bb ee [] 0 0 0 0 2 7 ee [] [] [] 4 bb ee [] 0 0 0 0 2 7 ee [] [] [] (rc a b) = some (0, [], 6, ee, 0, 0, ee, pp, 4, bb, ee, [], 0, 0, 0, 0, 2, 7, ee, [], [], [], 4, bb, ee, [], 0, 0, 0, 0, 2, 7, ee, [], [], [], 6, 0, ee, fs a b, 0, 0) := tab2 (by kernel_rfl)
theorem uw10 : IntKind.wrap .i64 ((1 : Int) - 0) = 1 := by decide
theorem uw11 : IntKind.wrap .i64 ((1 : Int) - 1) = 0 := by decide
theorem uw01 : IntKind.wrap .i64 ((0 : Int) + 1) = 1 := by decide
theorem ub00 : ((0 : Int) == 0) = true := rfl
theorem ub10 : ((1 : Int) == 0) = false := rfl
theorem un00 : ((0 : Int) != 0) = false := rfl
theorem put0_p {F : List (ByteArray × V)} {a b m : Int} (ha : a ∈ dig) (hb : b ∈ dig) (hm : m ∈ dig) : f1060 12 0 (V.mk 6 0 ee [(aa, V.mk 2 a ee []), (bb, V.mk 2 b ee [])]) (V.mk 6 0 ee [(aa, V.mk 2 m ee [])]) [] 6 ee 0 0 ee pp 4 bb ee [] 0 0 0 0 2 7 ee [] [] [] 4 aa ee [] 0 0 0 0 2 0 ee [] [] [] 6 0 ee F 0 0 = some (rc m b, 0) := by
  have h := put_b a ha b hb m hm
  unfold f1060 f1046
  simp only [ub00, cond_true, ob]
  rw [h]
  rfl
theorem put1_p {F : List (ByteArray × V)} {a b m : Int} (ha : a ∈ dig) (hb : b ∈ dig) (hm : m ∈ dig) : f1060 12 1 (V.mk 6 0 ee [(aa, V.mk 2 a ee []), (bb, V.mk 2 b ee [])]) (V.mk 6 0 ee [(bb, V.mk 2 m ee [])]) [] 6 ee 0 0 ee pp 4 bb ee [] 0 0 0 0 2 7 ee [] [] [] 4 aa ee [] 0 0 0 0 2 0 ee [] [] [] 6 0 ee F 0 0 = some (rc a m, 0) := by
  have h := put_a a ha b hb m hm
  unfold f1060 f1046
  simp only [ub10, cond_false, ob]
  rw [h]
  rfl
theorem vw0_p {F : List (ByteArray × V)} {a b : Int} (ha : a ∈ dig) (hb : b ∈ dig) : f1045 12 0 (V.mk 6 0 ee [(aa, V.mk 2 a ee []), (bb, V.mk 2 b ee [])]) [] 6 ee 0 0 ee pp 4 bb ee [] 0 0 0 0 2 7 ee [] [] [] 4 aa ee [] 0 0 0 0 2 0 ee [] [] [] 6 0 ee F 0 0 = some (on aa a, 0) := by
  have h := get_b a ha b hb
  unfold f1045 f1046
  simp only [ub00, cond_true, ob]
  rw [h]
  rfl
theorem vw1_p {F : List (ByteArray × V)} {a b : Int} (ha : a ∈ dig) (hb : b ∈ dig) : f1045 12 1 (V.mk 6 0 ee [(aa, V.mk 2 a ee []), (bb, V.mk 2 b ee [])]) [] 6 ee 0 0 ee pp 4 bb ee [] 0 0 0 0 2 7 ee [] [] [] 4 aa ee [] 0 0 0 0 2 0 ee [] [] [] 6 0 ee F 0 0 = some (on bb b, 0) := by
  have h := get_a a ha b hb
  unfold f1045 f1046
  simp only [ub10, cond_false, ob]
  rw [h]
  rfl
theorem put0_q {F : List (ByteArray × V)} {a b m : Int} (ha : a ∈ dig) (hb : b ∈ dig) (hm : m ∈ dig) : f1060 12 0 (V.mk 6 0 ee [(aa, V.mk 2 a ee []), (bb, V.mk 2 b ee [])]) (V.mk 6 0 ee [(aa, V.mk 2 m ee [])]) [] 6 ee 0 0 ee pp 4 bb ee [] 0 0 0 0 2 7 ee [] [] [] 4 bb ee [] 0 0 0 0 2 7 ee [] [] [] 6 0 ee F 0 0 = some (rc m b, 0) := by
  have h := put_b a ha b hb m hm
  unfold f1060 f1046
  simp only [ub00, cond_true, ob]
  rw [h]
  rfl
theorem put1_q {F : List (ByteArray × V)} {a b m : Int} (ha : a ∈ dig) (hb : b ∈ dig) (hm : m ∈ dig) : f1060 12 1 (V.mk 6 0 ee [(aa, V.mk 2 a ee []), (bb, V.mk 2 b ee [])]) (V.mk 6 0 ee [(aa, V.mk 2 m ee [])]) [] 6 ee 0 0 ee pp 4 bb ee [] 0 0 0 0 2 7 ee [] [] [] 4 bb ee [] 0 0 0 0 2 7 ee [] [] [] 6 0 ee F 0 0 = some (rc m b, 0) := by
  have h := put_b a ha b hb m hm
  unfold f1060 f1046
  simp only [ub10, cond_false, ob]
  rw [h]
  rfl
theorem vw0_q {F : List (ByteArray × V)} {a b : Int} (ha : a ∈ dig) (hb : b ∈ dig) : f1045 12 0 (V.mk 6 0 ee [(aa, V.mk 2 a ee []), (bb, V.mk 2 b ee [])]) [] 6 ee 0 0 ee pp 4 bb ee [] 0 0 0 0 2 7 ee [] [] [] 4 bb ee [] 0 0 0 0 2 7 ee [] [] [] 6 0 ee F 0 0 = some (on aa a, 0) := by
  have h := get_b a ha b hb
  unfold f1045 f1046
  simp only [ub00, cond_true, ob]
  rw [h]
  rfl
theorem vw1_q {F : List (ByteArray × V)} {a b : Int} (ha : a ∈ dig) (hb : b ∈ dig) : f1045 12 1 (V.mk 6 0 ee [(aa, V.mk 2 a ee []), (bb, V.mk 2 b ee [])]) [] 6 ee 0 0 ee pp 4 bb ee [] 0 0 0 0 2 7 ee [] [] [] 4 bb ee [] 0 0 0 0 2 7 ee [] [] [] 6 0 ee F 0 0 = some (on aa a, 0) := by
  have h := get_b a ha b hb
  unfold f1045 f1046
  simp only [ub10, cond_false, ob]
  rw [h]
  rfl
end Go.Clap

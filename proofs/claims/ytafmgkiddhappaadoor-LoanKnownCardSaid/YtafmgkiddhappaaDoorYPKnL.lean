/- The closed statement's examples: what the plain functions say of them. Conditions: none. -/
import Derived.Test.YtafmgkiddhappaaDoorZP
import Derived.Test.YtafmgkiddhappaaDoorYPLend
import Derived.Test.YtafmgkiddhappaaDoorYPRun
import Derived.Test.YtafmgkiddhappaaDoorYPKeep
namespace Go.Proofs.YtafmgkiddhappaaDoor
open Go.Sx Go.RowKit
abbrev s5 {α : Type} (a b c d e : α) (i : Nat) : α := if i = 0 then a else if i = 1 then b else if i = 2 then c else if i = 3 then d else e
theorem lt5 {i : Nat} (h : i < 5) : i = 0 ∨ i = 1 ∨ i = 2 ∨ i = 3 ∨ i = 4 := by omega
abbrev s8 {α : Type} (a b c d e f g h : α) (i : Nat) : α := if i = 0 then a else if i = 1 then b else if i = 2 then c else if i = 3 then d else if i = 4 then e else if i = 5 then f else if i = 6 then g else h
theorem lt8 {i : Nat} (h : i < 8) : i = 0 ∨ i = 1 ∨ i = 2 ∨ i = 3 ∨ i = 4 ∨ i = 5 ∨ i = 6 ∨ i = 7 := by omega
abbrev ad1 (a : Nat) : Option Addr := some ⟨a, 0, none⟩
/-! markets that are none -/
abbrev mS1 : List Sale := [⟨0, 801, 10, 40, 1000⟩, ⟨0, 434, 20, 50, 2000⟩, ⟨0, 70, 10, 30, 900⟩, ⟨1, 0, 5, 10, 40⟩]
abbrev mS2 : List Sale := [⟨2, 800, 10, 40, 1000⟩, ⟨0, 434, 20, 50, 2000⟩, ⟨0, 70, 10, 30, 900⟩, ⟨1, 0, 5, 10, 40⟩]
abbrev mF3 : List Int := [65, 64]
abbrev mkS : Nat → List Sale := s5 [] mS1 mS2 mSales mSales
abbrev mkF : Nat → List Int := s5 [] mFade mFade mF3 mFade
abbrev mkA (a b c d : Nat) : Nat → Option Addr := s5 none (ad1 a) (ad1 b) (ad1 c) (ad1 d)
abbrev mkC : Nat → Nat := s5 0 4 4 4 4
abbrev mkD : Nat → Nat := s5 0 2 2 2 2
abbrev mk1 : Nat → Int := s5 0 50 50 50 50
abbrev mk2 : Nat → Int := s5 0 800 800 800 800
abbrev mk3 : Nat → Int := s5 0 2 2 2 0
abbrev mksL (a b c d e f g h : Nat) : List Value := [.slice none 0 0, .slice none 0 0, .int .i64 0, .int .i64 0, .int .i64 0, .slice (ad1 a) 4 4, .slice (ad1 e) 2 2, .int .i64 50, .int .i64 800, .int .i64 2, .slice (ad1 b) 4 4, .slice (ad1 f) 2 2, .int .i64 50, .int .i64 800, .int .i64 2, .slice (ad1 c) 4 4, .slice (ad1 g) 2 2, .int .i64 50, .int .i64 800, .int .i64 2, .slice (ad1 d) 4 4, .slice (ad1 h) 2 2, .int .i64 50, .int .i64 800, .int .i64 0]
theorem tkM (a b c d e f g h : Nat) {i : Nat} (hi : i < 5) : Tk 5 (i * 5) (mksL a b c d e f g h) [.slice (mkA a b c d i) (mkS i).length (mkC i), .slice (mkA e f g h i) (mkF i).length (mkD i), .int .i64 (mk1 i), .int .i64 (mk2 i), .int .i64 (mk3 i)] := by
  rcases lt5 hi with rfl | rfl | rfl | rfl | rfl
  · show Tk 5 0 _ [.slice none 0 0, .slice none 0 0, .int .i64 0, .int .i64 0, .int .i64 0]; infer_instance
  · show Tk 5 5 _ [.slice (ad1 a) 4 4, .slice (ad1 e) 2 2, .int .i64 50, .int .i64 800, .int .i64 2]; infer_instance
  · show Tk 5 10 _ [.slice (ad1 b) 4 4, .slice (ad1 f) 2 2, .int .i64 50, .int .i64 800, .int .i64 2]; infer_instance
  · show Tk 5 15 _ [.slice (ad1 c) 4 4, .slice (ad1 g) 2 2, .int .i64 50, .int .i64 800, .int .i64 2]; infer_instance
  · show Tk 5 20 _ [.slice (ad1 d) 4 4, .slice (ad1 h) 2 2, .int .i64 50, .int .i64 800, .int .i64 0]; infer_instance
theorem badMk {i : Nat} (h : i < 5) : errM (badMarket (mkS i) (mkF i) (mk1 i) (mk2 i) (mk3 i)) = 20 := by rcases lt5 h with rfl | rfl | rfl | rfl | rfl <;> kernel_rfl
theorem kl1 : CraftsL mSales mFade 50 800 2 2 = [] := by decide +kernel
theorem kl1e : CraftsE mSales mFade 50 800 2 2 = 7 := by decide +kernel
theorem kl2 : (valueOf mSales mFade 50 800 2 1 0 0).lo = 0 ∧ (valueOf mSales mFade 50 800 2 1 0 0).hi = 0 ∧ (valueOf mSales mFade 50 800 2 1 0 0).err = 4 := by decide +kernel
theorem kl3 : (valueOf mSales mFade 50 800 2 0 2 1).lo = 0 ∧ (valueOf mSales mFade 50 800 2 0 2 1).hi = 0 ∧ (valueOf mSales mFade 50 800 2 0 2 1).err = 21 := by decide +kernel
theorem kl4 : MostN 40 300 5000 0 2147483649 = 0 ∧ MostE 40 300 5000 0 2147483649 = 7 := by decide +kernel
theorem kl5 : LendN 40 300 5000 5 5 0 = 0 ∧ LendE 40 300 5000 5 5 0 = 7 := by decide +kernel
theorem kl6 : LendN 64 0 9 0 0 1 = 0 ∧ LendE 64 0 9 0 0 1 = 4 := by decide +kernel
theorem kl7 : MostN 64 0 9 20 20 = 9 ∧ MostE 64 0 9 20 20 = 0 := by decide +kernel
theorem kl8 : errT (badTerms 0 1 0) = 22 := by decide +kernel
/-! rules -/
abbrev sRing : ByteArray := ⟨#[114, 105, 110, 103]⟩
abbrev sFur : ByteArray := ⟨#[102, 117, 114]⟩
abbrev sWatch : ByteArray := ⟨#[119, 97, 116, 99, 104]⟩
abbrev sRingU : ByteArray := ⟨#[82, 105, 110, 103]⟩
abbrev ru1 : List RuleR := [⟨sRing, 40, 300, 5000⟩, ⟨sFur, 0, 0, 0⟩]
abbrev ru2 : List RuleR := [⟨sRing, 0, 0, 0⟩, ⟨sRing, 0, 0, 0⟩]
abbrev ru3 : List RuleR := [⟨sRingU, 0, 0, 0⟩]
theorem fo1 : evT (ForT ru1 sRing) = .agg #[.int .i64 40, .int .i64 300, .int .i64 5000] := by kernel_rfl
theorem fo1e : ForE ru1 sRing = 0 := by kernel_rfl
theorem fo2 : evT (ForT ru1 sWatch) = .agg #[.int .i64 0, .int .i64 0, .int .i64 0] := by kernel_rfl
theorem fo2e : ForE ru1 sWatch = 4 := by kernel_rfl
theorem fo3 : evT (ForT ru2 sRing) = .agg #[.int .i64 0, .int .i64 0, .int .i64 0] := by kernel_rfl
theorem fo3e : ForE ru2 sRing = 22 := by kernel_rfl
theorem fo4 : evT (ForT ru3 sRing) = .agg #[.int .i64 0, .int .i64 0, .int .i64 0] := by kernel_rfl
theorem fo4e : ForE ru3 sRing = 22 := by kernel_rfl
/-! deals that are none -/
abbrev dlK : Nat → Deal := s5 ⟨0, 0, 0, 0, 0, 0, 0, [], 0, 0⟩ ⟨1000, 65, 500, 2, 50, 10, 3, [103, 104], 100, 100000⟩ ⟨1000, 16, 500, 2, 50, 0, 3, [103, 104], 100, 100000⟩ ⟨1000, 16, 500, 2, 50, 10, 3, [103, 103], 100, 100000⟩ ⟨1000, 16, 500, 2, 50, 10, 3, [103, 104], 100, 0⟩
abbrev dlsL (a b c d : Nat) : List Value := [.int .i64 0, .int .i64 0, .int .i64 0, .int .i64 0, .int .i64 0, .int .i64 0, .int .i64 0, .slice none 0 0, .int .i64 0, .int .i64 0, .int .i64 1000, .int .i64 65, .int .i64 500, .int .i64 2, .int .i64 50, .int .i64 10, .int .i64 3, .slice (ad1 a) 2 2, .int .i64 100, .int .i64 100000, .int .i64 1000, .int .i64 16, .int .i64 500, .int .i64 2, .int .i64 50, .int .i64 0, .int .i64 3, .slice (ad1 b) 2 2, .int .i64 100, .int .i64 100000, .int .i64 1000, .int .i64 16, .int .i64 500, .int .i64 2, .int .i64 50, .int .i64 10, .int .i64 3, .slice (ad1 c) 2 2, .int .i64 100, .int .i64 100000, .int .i64 1000, .int .i64 16, .int .i64 500, .int .i64 2, .int .i64 50, .int .i64 10, .int .i64 3, .slice (ad1 d) 2 2, .int .i64 100, .int .i64 0]
abbrev dlV (d : Deal) (A : Option Addr) (c : Nat) : List Value := [.int .i64 d.lr, .int .i64 d.lc, .int .i64 d.tr, .int .i64 d.tf, .int .i64 d.te, .int .i64 d.tt, .int .i64 d.tg, .slice A d.closed.length c, .int .i64 d.start, .int .i64 d.sum]
theorem tkD (a b c d : Nat) {i : Nat} (hi : i < 5) : Tk 10 (i * 10) (dlsL a b c d) [.int .i64 (dlK i).lr, .int .i64 (dlK i).lc, .int .i64 (dlK i).tr, .int .i64 (dlK i).tf, .int .i64 (dlK i).te, .int .i64 (dlK i).tt, .int .i64 (dlK i).tg, .slice (mkA a b c d i) (dlK i).closed.length (mkD i), .int .i64 (dlK i).start, .int .i64 (dlK i).sum] := by
  rcases lt5 hi with rfl | rfl | rfl | rfl | rfl
  · show Tk 10 0 _ [.int .i64 0, .int .i64 0, .int .i64 0, .int .i64 0, .int .i64 0, .int .i64 0, .int .i64 0, .slice none 0 0, .int .i64 0, .int .i64 0]; infer_instance
  · show Tk 10 10 _ [.int .i64 1000, .int .i64 65, .int .i64 500, .int .i64 2, .int .i64 50, .int .i64 10, .int .i64 3, .slice (ad1 a) 2 2, .int .i64 100, .int .i64 100000]; infer_instance
  · show Tk 10 20 _ [.int .i64 1000, .int .i64 16, .int .i64 500, .int .i64 2, .int .i64 50, .int .i64 0, .int .i64 3, .slice (ad1 b) 2 2, .int .i64 100, .int .i64 100000]; infer_instance
  · show Tk 10 30 _ [.int .i64 1000, .int .i64 16, .int .i64 500, .int .i64 2, .int .i64 50, .int .i64 10, .int .i64 3, .slice (ad1 c) 2 2, .int .i64 100, .int .i64 100000]; infer_instance
  · show Tk 10 40 _ [.int .i64 1000, .int .i64 16, .int .i64 500, .int .i64 2, .int .i64 50, .int .i64 10, .int .i64 3, .slice (ad1 d) 2 2, .int .i64 100, .int .i64 0]; infer_instance
theorem badDk {i : Nat} (h : i < 5) : errD (badDeal (dlK i)) = 23 := by rcases lt5 h with rfl | rfl | rfl | rfl | rfl <;> kernel_rfl
/-! acts that are none -/
abbrev od0 : List Act1 := [⟨99, 2, 0⟩]
abbrev od1 : List Act1 := [⟨101, 0, 0⟩]
abbrev od2 : List Act1 := [⟨101, 1, 0⟩]
abbrev od3 : List Act1 := [⟨101, 2, 1⟩]
abbrev od4 : List Act1 := [⟨101, 3, 367⟩]
abbrev od5 : List Act1 := [⟨102, 2, 0⟩, ⟨101, 2, 0⟩]
abbrev od6 : List Act1 := [⟨101, 4, 0⟩, ⟨101, 2, 0⟩]
abbrev od7 : List Act1 := List.replicate 33 ⟨0, 0, 0⟩
abbrev odK : Nat → List Act1 := s8 od0 od1 od2 od3 od4 od5 od6 od7
abbrev odA (a b c d e f g h : Nat) : Nat → Option Addr := s8 (ad1 a) (ad1 b) (ad1 c) (ad1 d) (ad1 e) (ad1 f) (ad1 g) (ad1 h)
abbrev odC : Nat → Nat := s8 1 1 1 1 1 2 2 33
abbrev odsL (a b c d e f g h : Nat) : List Value := [.slice (ad1 a) 1 1, .slice (ad1 b) 1 1, .slice (ad1 c) 1 1, .slice (ad1 d) 1 1, .slice (ad1 e) 1 1, .slice (ad1 f) 2 2, .slice (ad1 g) 2 2, .slice (ad1 h) 33 33]
theorem tkO (a b c d e f g h : Nat) {i : Nat} (hi : i < 8) : (odsL a b c d e f g h)[i]? = some (.slice (odA a b c d e f g h i) (odK i).length (odC i)) := by
  rcases lt8 hi with rfl | rfl | rfl | rfl | rfl | rfl | rfl | rfl <;> rfl
theorem badO {i : Nat} (h : i < 8) : RunO dealD (odK i) = [] ∧ RunN dealD (odK i) = 0 ∧ RunE dealD (odK i) = 24 := by
  rcases lt8 h with rfl | rfl | rfl | rfl | rfl | rfl | rfl | rfl <;> decide +kernel
/-! runs -/
abbrev ac1 : List Act1 := [⟨101, 2, 0⟩, ⟨117, 2, 0⟩]
abbrev ac2 : List Act1 := [⟨101, 3, 3⟩, ⟨103, 3, 1⟩]
abbrev ac3 : List Act1 := [⟨101, 1, 100000⟩]
abbrev ac4 : List Act1 := [⟨101, 3, 3⟩, ⟨104, 3, 1⟩, ⟨107, 4, 0⟩]
abbrev rn4 : List Acc := [⟨100000, 0, 0, 1, true⟩, ⟨100000, 0, 0, 1, true⟩, ⟨0, 50, 50, 3, false⟩]
theorem rn1 : RunO dealD ac1 = [] ∧ RunN dealD ac1 = 1 ∧ RunE dealD ac1 = 25 := by decide +kernel
theorem rn2 : RunO dealD ac2 = [] ∧ RunN dealD ac2 = 1 ∧ RunE dealD ac2 = 26 := by decide +kernel
theorem rn3 : RunO dealD ac3 = [] ∧ RunN dealD ac3 = 0 ∧ RunE dealD ac3 = 6 := by decide +kernel
theorem rn4e : RunO dealD ac4 = rn4 ∧ RunN dealD ac4 = 3 ∧ RunE dealD ac4 = 0 := by decide +kernel
abbrev ac5 : List Act1 := [⟨110, 2, 0⟩]
abbrev ac6 : List Act1 := [⟨105, 2, 0⟩]
abbrev deal1 : Deal := ⟨100, 16, 500, 2, 50, 10, 3, [103, 104], 100, 100000⟩
abbrev deal2 : Deal := ⟨100, 0, 500, 2, 50, 10, 3, [103, 104], 100, 100000⟩
theorem ow1 : OweA dealD [] 300 = ⟨100000, 9800, 0, 198, true⟩ ∧ onE dealD [] 300 = 0 := by decide +kernel
theorem ow2 : OweA dealD [] 99 = ⟨0, 0, 0, 0, false⟩ ∧ onE dealD [] 99 = 7 := by decide +kernel
theorem ow3 : OweA dealD ac5 109 = ⟨0, 0, 0, 0, false⟩ ∧ onE dealD ac5 109 = 7 := by decide +kernel
theorem ow4 : OweA deal1 ac6 105 = ⟨100000, 30, 30, 0, true⟩ ∧ onE deal1 ac6 105 = 0 := by decide +kernel
theorem ow5 : OweA deal2 [] 112 = ⟨100000, 0, 0, 10, true⟩ ∧ onE deal2 [] 112 = 0 := by decide +kernel
theorem ke1 : KeepN dealD 100 = [] ∧ KeepE dealD 100 = 0 := by decide +kernel
theorem rkF_len (d : Deal) : ∀ (n : Nat) (day age : Int) (out : List Int), out.length ≤ (rkF d n day age out).length
  | 0, _, _, _ => by rw [rkF]; exact Nat.le_refl _
  | n + 1, day, age, out => by
    rw [rkF]
    split
    · exact rkF_len d n _ _ _
    · split
      · have := rkF_len d n (day + 1) 1 (out ++ [day - 1])
        rw [List.length_append] at this
        omega
      · exact rkF_len d n _ _ _
theorem rkF_split (d : Deal) (n : Nat) : ∀ (m : Nat) (day age : Int) (out : List Int), (rkF d m day age out).length ≤ (rkF d (m + n) day age out).length
  | 0, day, age, out => by rw [Nat.zero_add]; exact rkF_len d n day age out
  | m + 1, day, age, out => by
    rw [show m + 1 + n = (m + n) + 1 by omega, rkF, rkF]
    split
    · exact rkF_split d n m _ _ _
    · split
      · exact rkF_split d n m _ _ _
      · exact rkF_split d n m _ _ _
theorem ke2 : KeepE dealD 36500 = 3 := by
  have hb : badDeal dealD = false := by decide +kernel
  have h1 : (rkF dealD 600 101 0 []).length = 45 := by decide +kernel
  have h2 := rkF_split dealD 35800 600 101 0 []
  have h3 : rkL dealD 36500 = rkF dealD (600 + 35800) 101 0 [] := rfl
  have h4 : 32 < (keepL dealD 36500).length := by rw [keepL_rk (badDeal_no hb), h3]; omega
  unfold KeepE
  rw [hb, if_neg (by simp), if_pos (by decide +kernel), if_pos h4]
end Go.Proofs.YtafmgkiddhappaaDoor

/- SignPut of the program answers as the reference's SignPut for every number. No condition. -/
import Derived.Test.YteaeachobnmpgaaPAllxlawsFnExactSignPut81ac
import Derived.Test.YteaeachobnmpgaaPAllxspecl1In08d2
import Derived.Test.YteaeachobnmpgaaPAllxspecl1Sign97c8
import Derived.Test.YteaeachobnmpgaaPAllxspecl1Put6310
import Derived.Test.YteaeachobnmpgaaPAllxspecSignPut0a62
import Derived.Test.YteaeachobnmpgaaPAllximplwithin4168
import Derived.Test.YteaeachobnmpgaaPAllximplsignOk51b0
import Derived.Test.YteaeachobnmpgaaPAllximplSignPutdbf2
namespace Go.Proofs.Yteaeachobnmpgaa.Pure
open Go.RowKit Go.Proofs.Yteaeachobnmpgaa.PAll Go.Proofs.YteaeachobnmpgaaW.PrintWords Go.Proofs.YteaeachobnmpgaaW.PrintLast Go.Proofs.YteaeachobnmpgaaW.PrintMore Go.Proofs.YteaeachobnmpgaaW.XWords

def signB (a : Int) : Bool := a == 9 || a == 10 || (decide (32 ≤ a) && decide (a ≤ 55295)) || (decide (57344 ≤ a) && decide (a ≤ 65533)) || (decide (65536 ≤ a) && decide (a ≤ 1114111))
theorem in_eq (n lo hi : Int) : spec_l1In.f n lo hi = some (decide (lo ≤ n) && decide (n ≤ hi)) := by
  unfold spec_l1In.f
  split <;> rw [Option.some.injEq, Bool.eq_iff_iff] <;> simp <;> omega
theorem within_eq (n lo hi : Int) : impl_within.f n lo hi = some (decide (lo ≤ n) && decide (n ≤ hi)) := by
  unfold impl_within.f
  split <;> rw [Option.some.injEq, Bool.eq_iff_iff] <;> simp <;> omega
theorem sign_spec (a : Int) : spec_l1Sign.f a = some (signB a) := by
  unfold spec_l1Sign.f signB
  simp only [in_eq, Option.bind_some]
  (repeat' split) <;> rw [Option.some.injEq, Bool.eq_iff_iff] <;> simp_all <;> omega
theorem sign_impl (a : Int) : impl_signOk.f a = some (signB a) := by
  unfold impl_signOk.f signB
  simp only [within_eq, Option.bind_some]
  (repeat' split) <;> rw [Option.some.injEq, Bool.eq_iff_iff] <;> simp_all <;> omega
theorem sign_range {a : Int} (h : signB a = true) : 0 ≤ a ∧ a ≤ 1114111 ∧ (a ≤ 55295 ∨ 57344 ≤ a) := by
  unfold signB at h
  simp at h
  omega
theorem byte_sum (b x : Nat) (h : b + x < 256) : UInt8.ofNat ((wrap64 ((b : Int) + (x : Int))) % 256).toNat = UInt8.ofNat (b + x) := by
  have : (wrap64 ((b : Int) + (x : Int))) % 256 = ((b + x : Nat) : Int) := by unfold wrap64; omega
  rw [this, Int.toNat_natCast]
theorem wrap_small (x : Nat) (h : x ≤ 2000000) : wrap64 (x : Int) = (x : Int) := by unfold wrap64; omega
theorem div_nat (n k : Nat) : Int.tdiv (n : Int) (k : Int) = ((n / k : Nat) : Int) := by rw [Int.tdiv_eq_ediv_of_nonneg (by omega)]; rfl
theorem mod_nat (n k : Nat) : Int.tmod (n : Int) (k : Int) = ((n % k : Nat) : Int) := by rw [Int.tmod_eq_emod_of_nonneg (by omega)]; rfl
theorem two_eq (n : Nat) (h : n < 2048) : strOfNums [(wrap64 (192 + (wrap64 (Int.tdiv (n : Int) 64)))) % 256, (wrap64 (128 + (Int.tmod (n : Int) 64))) % 256] = ⟨#[UInt8.ofNat (192 + n / 64), UInt8.ofNat (128 + n % 64)]⟩ := by
  rw [show Int.tdiv (n : Int) 64 = _ from div_nat n 64, show Int.tmod (n : Int) 64 = _ from mod_nat n 64, wrap_small _ (by omega)]
  unfold strOfNums
  simp only [List.map_cons, List.map_nil]
  rw [show UInt8.ofNat ((wrap64 (192 + ((n / 64 : Nat) : Int))) % 256).toNat = _ from byte_sum 192 _ (by omega), show UInt8.ofNat ((wrap64 (128 + ((n % 64 : Nat) : Int))) % 256).toNat = _ from byte_sum 128 _ (by omega)]
theorem three_eq (n : Nat) (h : n < 65536) : strOfNums [(wrap64 (224 + (wrap64 (Int.tdiv (n : Int) 4096)))) % 256, (wrap64 (128 + (Int.tmod (wrap64 (Int.tdiv (n : Int) 64)) 64))) % 256, (wrap64 (128 + (Int.tmod (n : Int) 64))) % 256] = ⟨#[UInt8.ofNat (224 + n / 4096), UInt8.ofNat (128 + n / 64 % 64), UInt8.ofNat (128 + n % 64)]⟩ := by
  rw [show Int.tdiv (n : Int) 64 = _ from div_nat n 64, show Int.tdiv (n : Int) 4096 = _ from div_nat n 4096, wrap_small _ (by omega), wrap_small _ (by omega), show Int.tmod (n : Int) 64 = _ from mod_nat n 64, show Int.tmod ((n / 64 : Nat) : Int) 64 = _ from mod_nat _ 64]
  unfold strOfNums
  simp only [List.map_cons, List.map_nil]
  rw [show UInt8.ofNat ((wrap64 (224 + ((n / 4096 : Nat) : Int))) % 256).toNat = _ from byte_sum 224 _ (by omega), show UInt8.ofNat ((wrap64 (128 + ((n / 64 % 64 : Nat) : Int))) % 256).toNat = _ from byte_sum 128 _ (by omega), show UInt8.ofNat ((wrap64 (128 + ((n % 64 : Nat) : Int))) % 256).toNat = _ from byte_sum 128 _ (by omega)]
theorem four_eq (n : Nat) (h : n ≤ 1114111) : strOfNums [(wrap64 (240 + (wrap64 (Int.tdiv (n : Int) 262144)))) % 256, (wrap64 (128 + (Int.tmod (wrap64 (Int.tdiv (n : Int) 4096)) 64))) % 256, (wrap64 (128 + (Int.tmod (wrap64 (Int.tdiv (n : Int) 64)) 64))) % 256, (wrap64 (128 + (Int.tmod (n : Int) 64))) % 256] = ⟨#[UInt8.ofNat (240 + n / 262144), UInt8.ofNat (128 + n / 4096 % 64), UInt8.ofNat (128 + n / 64 % 64), UInt8.ofNat (128 + n % 64)]⟩ := by
  rw [show Int.tdiv (n : Int) 64 = _ from div_nat n 64, show Int.tdiv (n : Int) 4096 = _ from div_nat n 4096, show Int.tdiv (n : Int) 262144 = _ from div_nat n 262144, wrap_small _ (by omega), wrap_small _ (by omega), wrap_small _ (by omega), show Int.tmod (n : Int) 64 = _ from mod_nat n 64, show Int.tmod ((n / 64 : Nat) : Int) 64 = _ from mod_nat _ 64, show Int.tmod ((n / 4096 : Nat) : Int) 64 = _ from mod_nat _ 64]
  unfold strOfNums
  simp only [List.map_cons, List.map_nil]
  rw [show UInt8.ofNat ((wrap64 (240 + ((n / 262144 : Nat) : Int))) % 256).toNat = _ from byte_sum 240 _ (by omega), show UInt8.ofNat ((wrap64 (128 + ((n / 4096 % 64 : Nat) : Int))) % 256).toNat = _ from byte_sum 128 _ (by omega), show UInt8.ofNat ((wrap64 (128 + ((n / 64 % 64 : Nat) : Int))) % 256).toNat = _ from byte_sum 128 _ (by omega), show UInt8.ofNat ((wrap64 (128 + ((n % 64 : Nat) : Int))) % 256).toNat = _ from byte_sum 128 _ (by omega)]
theorem put_eq (a : Int) (h : signB a = true) : spec_l1Put.f a = some (Utf8.encode (wrap32 a)) := by
  obtain ⟨h0, h1, h2⟩ := sign_range h
  obtain ⟨n, rfl⟩ := Int.eq_ofNat_of_zero_le h0
  have hw : wrap32 (n : Int) = (n : Int) := by unfold wrap32; omega
  have hv : Utf8.valid (n : Int) = true := by rw [validRune_eq]; unfold validRune; simp; omega
  rw [hw]
  unfold spec_l1Put.f Utf8.encode
  rw [hv]
  simp only [if_true, Int.toNat_natCast]
  by_cases c1 : n < 128
  · rw [if_pos (by omega), if_pos c1]
    unfold strOfNums
    simp only [List.map_cons, List.map_nil]
    rw [show ((n : Int) % 256).toNat = n by omega]
  rw [if_neg (by omega), if_neg c1]
  by_cases c2 : n < 2048
  · rw [if_pos (by omega), if_pos c2, two_eq n c2]
  rw [if_neg (by omega), if_neg c2]
  by_cases c3 : n < 65536
  · rw [if_pos (by omega), if_pos c3, three_eq n c3]
  rw [if_neg (by omega), if_neg c3, four_eq n (by omega)]
theorem FnExactSignPut : laws_FnExactSignPut.Pure := by
  intro a _
  unfold laws_FnExactSignPut.f spec_SignPut.f impl_SignPut.f
  rw [sign_spec, sign_impl]
  simp only [Option.bind_some]
  cases h : signB a with
  | false => simp
  | true => simp [put_eq a h]
end Go.Proofs.Yteaeachobnmpgaa.Pure

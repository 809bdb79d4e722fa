import Derived.WalkKit
import Derived.Laws.BitsLemmas
import Derived.Lib.Strings
set_option linter.unusedVariables false
namespace Go.Proofs.YtpogffdbencfnaaGreatDoor
open Go Go.RowKit

/-! the mixing of 64 bits -/
def mixB (z : BitVec 64) : BitVec 64 :=
  let a := z * 2862933555777941757#64
  let b := (a ^^^ (a >>> 32)) * 3935559000370003845#64
  b ^^^ (b >>> 29)

def mixI (z : Int) : Int :=
  bits BinOp.xor IntKind.u64 (IntKind.u64.wrap (bits BinOp.xor IntKind.u64 (IntKind.u64.wrap (z * 2862933555777941757)) (IntKind.u64.wrap (z * 2862933555777941757) / 4294967296) * 3935559000370003845))
    (IntKind.u64.wrap (bits BinOp.xor IntKind.u64 (IntKind.u64.wrap (z * 2862933555777941757)) (IntKind.u64.wrap (z * 2862933555777941757) / 4294967296) * 3935559000370003845) / 536870912)

theorem wrapU (n : Int) : IntKind.u64.wrap n = n % 18446744073709551616 := by simp [IntKind.wrap, IntKind.bits, IntKind.signed]
theorem wrap_toNat (v : BitVec 64) : IntKind.u64.wrap (v.toNat : Int) = (v.toNat : Int) := by rw [wrapU]; have := v.isLt; omega
theorem xorB (a b : BitVec 64) : bits BinOp.xor IntKind.u64 (a.toNat : Int) (b.toNat : Int) = ((a ^^^ b).toNat : Int) := by
  have ha : BitVec.ofInt IntKind.u64.bits (a.toNat : Int) = a := by rw [BitVec.ofInt_natCast]; exact BitVec.ofNat_toNat 64 a ▸ (by simp [IntKind.bits])
  have hb : BitVec.ofInt IntKind.u64.bits (b.toNat : Int) = b := by rw [BitVec.ofInt_natCast]; exact BitVec.ofNat_toNat 64 b ▸ (by simp [IntKind.bits])
  simp only [bits, ha, hb]
  exact wrap_toNat _
theorem mulB (a : BitVec 64) (c : Nat) : IntKind.u64.wrap ((a.toNat : Int) * (c : Int)) = ((a * BitVec.ofNat 64 c).toNat : Int) := by
  rw [wrapU, BitVec.toNat_mul, BitVec.toNat_ofNat, Nat.mul_mod_mod, Int.natCast_emod, Int.natCast_mul]
  rfl
theorem shrB32 (a : BitVec 64) (d : Int) (hd : d = 4294967296) : (a.toNat : Int) / d = ((a >>> 32).toNat : Int) := by
  subst hd
  rw [BitVec.toNat_ushiftRight, Nat.shiftRight_eq_div_pow]; rfl
theorem shrB29 (a : BitVec 64) (d : Int) (hd : d = 536870912) : (a.toNat : Int) / d = ((a >>> 29).toNat : Int) := by
  subst hd
  rw [BitVec.toNat_ushiftRight, Nat.shiftRight_eq_div_pow]; rfl
theorem mixI_eq (z : BitVec 64) : mixI (z.toNat : Int) = ((mixB z).toNat : Int) := by
  unfold mixI mixB
  rw [show ((2862933555777941757 : Int)) = ((2862933555777941757 : Nat) : Int) from rfl, show ((3935559000370003845 : Int)) = ((3935559000370003845 : Nat) : Int) from rfl]
  rw [mulB, shrB32 _ _ rfl, xorB, mulB, shrB29 _ _ rfl, xorB]

theorem xorshift_inj {k : Nat} (hk : 0 < k) (x y : BitVec 64) (h : x ^^^ (x >>> k) = y ^^^ (y >>> k)) : x = y := by
  apply BitVec.eq_of_getLsbD_eq
  intro i hi
  have main : ∀ n i, i < 64 → 64 - i ≤ n → x.getLsbD i = y.getLsbD i := by
    intro n
    induction n with
    | zero => intro i hi hn; omega
    | succ n ih =>
      intro i hi hn
      have e := congrArg (fun v => v.getLsbD i) h
      simp only [BitVec.getLsbD_xor, BitVec.getLsbD_ushiftRight] at e
      have hs : x.getLsbD (k + i) = y.getLsbD (k + i) := by
        by_cases h64 : k + i < 64
        · exact ih (k + i) h64 (by omega)
        · rw [BitVec.getLsbD_of_ge x _ (by omega), BitVec.getLsbD_of_ge y _ (by omega)]
      rw [hs] at e
      revert e
      cases x.getLsbD i <;> cases y.getLsbD i <;> cases y.getLsbD (k + i) <;> simp
  exact main 64 i hi (by omega)
theorem mul_inj (c d : BitVec 64) (hcd : c * d = 1#64) (x y : BitVec 64) (h : x * c = y * c) : x = y := by
  have := congrArg (· * d) h
  simpa [BitVec.mul_assoc, hcd] using this
theorem mixB_inj (x y : BitVec 64) (h : mixB x = mixB y) : x = y := by
  unfold mixB at h
  have h1 := xorshift_inj (by decide) _ _ h
  have h2 := mul_inj 3935559000370003845#64 13700500150304694605#64 (by decide) _ _ h1
  have h3 := xorshift_inj (by decide) _ _ h2
  exact mul_inj 2862933555777941757#64 16133697096952638549#64 (by decide) _ _ h3
end Go.Proofs.YtpogffdbencfnaaGreatDoor

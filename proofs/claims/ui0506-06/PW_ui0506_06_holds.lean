import PyProof.Rows.All
import Wide.All
import OpenK.AllK
import Wide.FinOn
import PySem.Challenge.RW_ui0506_06
open PySem PySem.W PySem.W.X PySem.W.ZRun PyProof.Rows
set_option Elab.async false
namespace Mine
open PySem.W.Z
theorem one1 (n : Int) : Int.fmod ((1 + Int.fmod n 30) * Int.ofNat (nat_lit 1)) 31 = 1 + Int.fmod n 30 := by
  have e : (1 + Int.fmod n 30) * Int.ofNat (nat_lit 1) = 1 + Int.fmod n 30 := Int.mul_one _
  rw [e, Int.fmod_eq_emod_of_nonneg _ (show (0 : Int) ≤ 31 by decide), Int.fmod_eq_emod_of_nonneg _ (show (0 : Int) ≤ 30 by decide)]
  omega
theorem one0 (n : Int) : Int.fmod (Int.fmod n 31 * Int.ofNat (nat_lit 1)) 31 = Int.fmod n 31 := by
  have e : Int.fmod n 31 * Int.ofNat (nat_lit 1) = Int.fmod n 31 := Int.mul_one _
  rw [e]
  simp only [Int.fmod_eq_emod_of_nonneg _ (show (0 : Int) ≤ 31 by decide)]
  omega
theorem prod1 (n : Int) : (1 + Int.fmod n 30) * Int.ofNat (nat_lit 1) = 1 + Int.fmod n 30 := Int.mul_one _
theorem prod0 (n : Int) : Int.fmod n 31 * Int.ofNat (nat_lit 1) = Int.fmod n 31 := Int.mul_one _
theorem bits1 (n : Int) : ¬ (Nat.ble (Nat.succ shortFactorBits) (PySem.W.X.bitsQ (modQ ((1 + modQ n 30) * Int.ofNat (nat_lit 1)) 31)) = true) := by
  have h : PySem.W.X.bitsQ (modQ ((1 + modQ n 30) * Int.ofNat (nat_lit 1)) 31) ≤ 64 := by
    refine PySem.W.X.bits_le ?_ ?_
    all_goals
      rw [← modQ_eq]
      have := Int.fmod_nonneg_of_pos ((1 + Int.fmod n 30) * Int.ofNat (nat_lit 1)) (show (0 : Int) < 31 by decide)
      have := Int.fmod_lt_of_pos ((1 + Int.fmod n 30) * Int.ofNat (nat_lit 1)) (show (0 : Int) < 31 by decide)
      omega
  rw [Nat.ble_eq]
  unfold shortFactorBits
  omega
theorem bits0 (n : Int) : ¬ (Nat.ble (Nat.succ shortFactorBits) (PySem.W.X.bitsQ (modQ (modQ n 31 * Int.ofNat (nat_lit 1)) 31)) = true) := by
  have h : PySem.W.X.bitsQ (modQ (modQ n 31 * Int.ofNat (nat_lit 1)) 31) ≤ 64 := by
    refine PySem.W.X.bits_le ?_ ?_
    all_goals
      rw [← modQ_eq]
      have := Int.fmod_nonneg_of_pos (Int.fmod n 31 * Int.ofNat (nat_lit 1)) (show (0 : Int) < 31 by decide)
      have := Int.fmod_lt_of_pos (Int.fmod n 31 * Int.ofNat (nat_lit 1)) (show (0 : Int) < 31 by decide)
      omega
  rw [Nat.ble_eq]
  unfold shortFactorBits
  omega
theorem tok1 (n : Int) (t : Nat) : ¬ (Value.int (modQ ((1 + modQ n 30) * Int.ofNat (nat_lit 1)) 31) (t + ((nat_lit 193 + 1 + 1 : Nat))) = Value.int (1 + modQ n 30) (t + ((nat_lit 240 + 1 + 1 + 1 + 1 + 1 + 1 + 1 : Nat)))) := fun h => absurd (Nat.add_left_cancel (Value.int.inj h).2) (by decide)
theorem tok2 (n : Int) (t : Nat) : ¬ (Value.int (modQ ((1 + modQ n 30) * Int.ofNat (nat_lit 1)) 31) (t + ((nat_lit 193 + 1 + 1 : Nat))) = Value.int (1 + modQ n 30) (t + ((nat_lit 282 + 1 + 1 : Nat)))) := fun h => absurd (Nat.add_left_cancel (Value.int.inj h).2) (by decide)
theorem tok0 (n : Int) (t : Nat) : ¬ (Value.int (modQ (modQ n 31 * Int.ofNat (nat_lit 1)) 31) (t + ((nat_lit 236 + 1 + 1 : Nat))) = Value.int (modQ n 31) (t + ((nat_lit 276 + 1 + 1 + 1 : Nat)))) := fun h => absurd (Nat.add_left_cancel (Value.int.inj h).2) (by decide)
theorem tokz (n : Int) (t : Nat) : ¬ (Value.int 0 (t + ((nat_lit 170 + 1 : Nat))) = Value.int (modQ n 31) (t + ((nat_lit 240 + 1 + 1 : Nat)))) := fun h => absurd (Nat.add_left_cancel (Value.int.inj h).2) (by decide)
end Mine
set_option maxRecDepth 100000 in
set_option maxHeartbeats 0 in
theorem PySem.Challenge.cw_ui0506_06_holds : PySem.Challenge.rw_ui0506_06.Holds := by
  w_on; o_law; z_head; (case hw => w_witness2)
  k_fill
  intro w s₀ s₁ mg mb G y fa o pm cd doc dV kV ho hd hcd hD hmg hg args vals as L hpre hlay hrd hwl hlo
  z_open y L KX ZH ZN ZT
  refine Ground.open G ?_
  intro T B D TE TW
  wrow_args hpre hlay hrd hwl hlo
  obtain ⟨hat, hsz⟩ := script_at L
  have htk := script_toks L ZT
  rw [ZN] at hat hsz
  subst hat
  x_fa T KX hmg
  all_lens
  x_ints 3
  · z_item n0
    z_item n1
    z_item n2
    have k1 := Mine.one1 n1
    have k0 := Mine.one0 n0
    have p1 := Mine.prod1 n1
    have p0 := Mine.prod0 n0
    have b1 := Mine.bits1 n1
    have b0 := Mine.bits0 n0
    have t1 := Mine.tok1 n1 s₁.toks
    have t2 := Mine.tok2 n1 s₁.toks
    have t0 := Mine.tok0 n0 s₁.toks
    have tz := Mine.tokz n0 s₁.toks
    z_lists L; z_lens
    z_run
  all_goals (z_lists L; z_lens; z_run)

import PyProof.Rows.All
import Wide.All
import OpenK.AllK
import Wide.FinOn
import PySem.Challenge.RW_ui0506_04
open PySem PySem.W PySem.W.X PySem.W.ZRun PyProof.Rows
set_option Elab.async false
namespace Mine
open PySem.W.Z
theorem one_more (n p : Int) : modQ (modQ n 101 * Int.ofNat (nat_lit 1)) p = modQ (modQ n 101) p := congrArg (modQ · p) (Int.mul_one _)
theorem one_self (n : Int) : modQ (modQ n 101 * Int.ofNat (nat_lit 1)) 101 = modQ n 101 := by
  rw [one_more, ← modQ_eq]
  simp only [Int.fmod_eq_emod_of_nonneg _ (show (0 : Int) ≤ 101 by decide)]
  omega
theorem one31 (n : Int) : modQ (modQ n 101 * Int.ofNat (nat_lit 1)) 31 = modQ (modQ n 101) 31 := one_more n 31
theorem one3 (n : Int) : modQ (modQ n 101 * Int.ofNat (nat_lit 1)) 3 = modQ (modQ n 101) 3 := one_more n 3
theorem one2 (n : Int) : modQ (modQ n 101 * Int.ofNat (nat_lit 1)) 2 = modQ (modQ n 101) 2 := one_more n 2
end Mine

set_option maxRecDepth 100000 in
set_option maxHeartbeats 0 in
theorem PySem.Challenge.cw_ui0506_04_holds : PySem.Challenge.rw_ui0506_04.Holds := by
  w_on; o_law; z_head; (case hw => w_witness2)
  k_fill
  intro w s₀ s₁ mg mb G y fa o pm cd doc dV kV ho hd hcd hD hmg hg args vals as L hpre hlay hrd hwl hlo
  z_open y L KX ZH ZN ZT
  refine Ground.open G ?_
  intro T B D TE TW
  wrow_args hpre hlay hrd hwl hlo
  obtain ⟨hat, hsz⟩ := script_at L
  have htk := script_toks L ZT
  rw [ZN] at hat hsz
  subst hat
  x_fa T KX hmg
  all_lens
  x_ints 2
  · z_item n0
    z_item n1
    have k101 := Mine.one_self n1
    have k31 := Mine.one31 n1
    have k3 := Mine.one3 n1
    have k2 := Mine.one2 n1
    z_lists L; z_lens
    z_run
  all_goals (z_lists L; z_lens; z_run)

import PyProof.Rows.All
import Wide.All
import OpenK.AllK
import Wide.FinOn
import PySem.Challenge.RW_ui0506_14
open PySem PySem.W PySem.W.X PySem.W.ZRun PyProof.Rows
set_option Elab.async false
namespace Mine
theorem pos (n0 n1 : Int) : 0 < 1 + Int.fmod n0 9 + (1 + Int.fmod n1 9) := by
  have := Int.fmod_nonneg_of_pos n0 (show (0 : Int) < 9 by decide)
  have := Int.fmod_nonneg_of_pos n1 (show (0 : Int) < 9 by decide)
  omega
theorem lo (n0 n1 n2 : Int) : 0 ≤ Int.fmod n2 (1 + Int.fmod n0 9 + (1 + Int.fmod n1 9)) := Int.fmod_nonneg_of_pos _ (pos n0 n1)
theorem hi (n0 n1 n2 : Int) : Int.fmod n2 (1 + Int.fmod n0 9 + (1 + Int.fmod n1 9)) < 1 + Int.fmod n0 9 + (1 + Int.fmod n1 9) := Int.fmod_lt_of_pos _ (pos n0 n1)
open PySem.W.X PySem.W.Z in
theorem c1 (n0 n1 n2 : Int) : condFn Int ((fun x1 x2 => @decide (x1 ≥ x2) (leZ x2 x1)) (0 + (1 + modQ n0 9)) (1 + modQ n2 (1 + modQ n0 9 + (1 + modQ n1 9)))) 1 0 = condFn Int ((fun x1 x2 => @decide (x1 ≥ x2) (leZ x2 x1)) (1 + modQ n0 9) (1 + modQ n2 (1 + modQ n0 9 + (1 + modQ n1 9)))) 1 0 := by rw [Int.zero_add]
open PySem.W.X PySem.W.Z in
theorem c2 (n0 n1 n2 : Int) : condFn Int ((fun x1 x2 => @decide (x1 ≥ x2) (leZ x2 x1)) (0 + (1 + modQ n1 9)) (1 + modQ n2 (1 + modQ n0 9 + (1 + modQ n1 9)))) 1 0 = condFn Int ((fun x1 x2 => @decide (x1 ≥ x2) (leZ x2 x1)) (1 + modQ n1 9) (1 + modQ n2 (1 + modQ n0 9 + (1 + modQ n1 9)))) 1 0 := by rw [Int.zero_add]
open PySem.W.X PySem.W.Z in
theorem c3 (n0 n1 n2 : Int) : condFn Int ((fun x1 x2 => @decide (x1 ≥ x2) (leZ x2 x1)) (0 + (1 + modQ n0 9) + (1 + modQ n1 9)) (1 + modQ n2 (1 + modQ n0 9 + (1 + modQ n1 9)))) 1 0 = condFn Int ((fun x1 x2 => @decide (x1 ≥ x2) (leZ x2 x1)) (1 + modQ n0 9 + (1 + modQ n1 9)) (1 + modQ n2 (1 + modQ n0 9 + (1 + modQ n1 9)))) 1 0 := by rw [Int.zero_add]
end Mine
set_option maxRecDepth 100000 in
set_option maxHeartbeats 0 in
theorem PySem.Challenge.cw_ui0506_14_holds : PySem.Challenge.rw_ui0506_14.Holds := by
  w_on; o_law; z_head; (case hw => w_witness2)
  k_fill
  intro w s₀ s₁ mg mb G y fa o pm cd doc dV kV ho hd hcd hD hmg hg args vals as L hpre hlay hrd hwl hlo
  z_open y L KX ZH ZN ZT
  refine Ground.open G ?_
  intro T B D TE TW
  wrow_args hpre hlay hrd hwl hlo
  obtain ⟨hat, hsz⟩ := script_at L
  have htk := script_toks L ZT
  rw [ZN] at hat hsz
  subst hat
  x_fa T KX hmg
  all_lens
  x_ints 4
  · z_item n0
    z_item n1
    z_item n2
    z_item n3
    have k1 := Mine.lo n0 n1 n2
    have k2 := Mine.hi n0 n1 n2
    have c1 := Mine.c1 n0 n1 n2
    have c2 := Mine.c2 n0 n1 n2
    have c3 := Mine.c3 n0 n1 n2
    z_lists L; z_lens
    z_run
  all_goals (z_lists L; z_lens; z_run)

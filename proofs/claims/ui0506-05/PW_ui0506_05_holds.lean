import PyProof.Rows.All
import Wide.All
import OpenK.AllK
import Wide.FinOn
import PySem.Challenge.RW_ui0506_05
open PySem PySem.W PySem.W.X PySem.W.ZRun PyProof.Rows
set_option Elab.async false
namespace Mine
/-- the same rest by p -/
def Cg (p a b : Int) : Prop := a % p = b % p
theorem cg_refl {p a : Int} : Cg p a a := rfl
theorem cg_mod {p a b : Int} (h : Cg p a b) : Cg p (a % p) b := by unfold Cg at *; rw [Int.emod_emod_of_dvd _ (Int.dvd_refl p), h]
theorem cg_add {p a b c d : Int} (h : Cg p a b) (k : Cg p c d) : Cg p (a + c) (b + d) := by
  unfold Cg at *; rw [Int.add_emod, h, k, ← Int.add_emod]
theorem cg_mul {p a b c d : Int} (h : Cg p a b) (k : Cg p c d) : Cg p (a * c) (b * d) := by
  unfold Cg at *; rw [Int.mul_emod, h, k, ← Int.mul_emod]
theorem cg_eq {p a b c d : Int} (h : Cg p a c) (k : Cg p b d) (e : c = d) : a % p = b % p := by
  unfold Cg at *; rw [h, k, e]
theorem poly (n0 n1 n2 n3 n4 n5 : Int) :
    Int.fmod (Int.fmod (Int.fmod (0 * Int.fmod n5 31 + Int.fmod (0 + Int.fmod n4 31) 31) 31 * Int.fmod n5 31 + Int.fmod (Int.fmod n1 31 + Int.fmod n3 31) 31) 31 * Int.fmod n5 31 + Int.fmod (Int.fmod n0 31 + Int.fmod n2 31) 31) 31 =
    Int.fmod (Int.fmod (Int.fmod (0 * Int.fmod n5 31 + Int.fmod n1 31) 31 * Int.fmod n5 31 + Int.fmod n0 31) 31 +
      Int.fmod (Int.fmod (Int.fmod (0 * Int.fmod n5 31 + Int.fmod n4 31) 31 * Int.fmod n5 31 + Int.fmod n3 31) 31 * Int.fmod n5 31 + Int.fmod n2 31) 31) 31 := by
  simp only [Int.fmod_eq_emod_of_nonneg _ (show (0 : Int) ≤ 31 by decide)]
  refine' cg_eq ?a ?b ?c
  case a => repeat' (first | with_reducible apply cg_mod | with_reducible apply cg_add | with_reducible apply cg_mul | with_reducible exact cg_refl)
  case b => repeat' (first | with_reducible apply cg_mod | with_reducible apply cg_add | with_reducible apply cg_mul | with_reducible exact cg_refl)
  case c => grind
end Mine

set_option maxRecDepth 100000 in
set_option maxHeartbeats 0 in
theorem PySem.Challenge.cw_ui0506_05_holds : PySem.Challenge.rw_ui0506_05.Holds := by
  w_on; o_law; z_head; (case hw => w_witness2)
  k_fill
  intro w s₀ s₁ mg mb G y fa o pm cd doc dV kV ho hd hcd hD hmg hg args vals as L hpre hlay hrd hwl hlo
  z_open y L KX ZH ZN ZT
  refine Ground.open G ?_
  intro T B D TE TW
  wrow_args hpre hlay hrd hwl hlo
  obtain ⟨hat, hsz⟩ := script_at L
  have htk := script_toks L ZT
  rw [ZN] at hat hsz
  subst hat
  x_fa T KX hmg
  all_lens
  x_ints 6
  · z_item n0
    z_item n1
    z_item n2
    z_item n3
    z_item n4
    z_item n5
    have key := Mine.poly n0 n1 n2 n3 n4 n5
    z_lists L; z_lens
    z_run
  all_goals (z_lists L; z_lens; z_run)

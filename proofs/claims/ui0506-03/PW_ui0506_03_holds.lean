import PyProof.Rows.All
import Wide.All
import OpenK.AllK
import Wide.FinOn
import PySem.Challenge.RW_ui0506_03
open PySem PySem.W PyProof.Rows
set_option Elab.async false
namespace Mine
/-- a product in the field of 101 -/
@[reducible] def mm (x y : Int) : Int := Int.fmod (x * y) 101
@[reducible] def sq (x : Int) : Int := mm x x
/-- the 99th power, as the square-and-multiply loop builds it -/
@[reducible] def pw (a : Int) : Int :=
  mm (mm (mm (mm 1 a) (sq a)) (sq (sq (sq (sq (sq a)))))) (sq (sq (sq (sq (sq (sq a))))))
theorem pw_key : ∀ k : Fin 100, Int.fmod (pw (Int.fmod (1 + (k.1 : Int)) 101) * (1 + (k.1 : Int))) 101 = 1 := by decide +kernel
theorem pw_inv (m : Int) : Int.fmod (pw (Int.fmod (1 + Int.fmod m 100) 101) * (1 + Int.fmod m 100)) 101 = 1 := by
  have h0 : 0 ≤ Int.fmod m 100 := Int.fmod_nonneg_of_pos m (by decide)
  have h1 : Int.fmod m 100 < 100 := Int.fmod_lt_of_pos m (by decide)
  have h := pw_key ⟨(Int.fmod m 100).toNat, by omega⟩
  simp only at h
  rwa [Int.toNat_of_nonneg h0] at h
theorem back (n m : Int) :
    Int.fmod (Int.fmod (Int.fmod n 101 * pw (Int.fmod (1 + Int.fmod m 100) 101)) 101 * (1 + Int.fmod m 100)) 101 = Int.fmod n 101 := by
  have h := pw_inv m
  generalize pw (Int.fmod (1 + Int.fmod m 100) 101) = P at h ⊢
  generalize 1 + Int.fmod m 100 = b at h ⊢
  rw [Int.fmod_eq_emod_of_nonneg _ (by decide)] at h
  simp only [Int.fmod_eq_emod_of_nonneg _ (show (0 : Int) ≤ 101 by decide)]
  have e1 : (n % 101 * P % 101 * b) % 101 = (n % 101 * (P * b % 101)) % 101 := by
    rw [Int.mul_emod (n % 101 * P % 101) b, Int.emod_emod_of_dvd _ (Int.dvd_refl 101), ← Int.mul_emod, Int.mul_assoc, Int.mul_emod (n % 101) (P * b),
      Int.mul_emod (n % 101) (P * b % 101), Int.emod_emod_of_dvd (P * b) (Int.dvd_refl 101)]
  rw [e1, h, Int.mul_one, Int.emod_emod_of_dvd _ (Int.dvd_refl 101)]
end Mine
set_option maxRecDepth 100000 in
set_option maxHeartbeats 8000000 in
theorem PySem.Challenge.cw_ui0506_03_holds : PySem.Challenge.rw_ui0506_03.Holds := by
  (k_with "end" => exact absurd (Mine.back _ _) (by assumption))
  open_k

/- The plain part of ServerEnds, ServerKnown. -/
import Derived.Test.YtilnibedblmoeaaInv2
namespace Go.Proofs.Ytilnibedblmoeaa

def logC (c : Int) : List (Int × Out) := if c < 200 then [(0, (3, 0, 0, 0)), (3000, (1, c, 0, 0))] else [(0, (3, 0, 0, 0)), (3000, (1, c, 0, 0)), (3000, (4, 0, 10, 32000))]
def sA : Sim := untilS 200 startS 3000
def sB : Sim := giveS sA (6, 0, 0)
def sC (c : Int) : Sim := giveS sB (4, c, 0)
def mC (c : Int) : Mc := if c < 200 then (3, 0, c) else (5, 0, c)
def dC (c : Int) : Int := if c < 200 then -1 else 35000
theorem sA_eq : sA = mkS (2, 0, 0) (-1) 3000 [(0, (3, 0, 0, 0))] := by
  unfold sA
  rw [startS_eq, until_mk (by decide) 198, if_neg (by omega)]
  rfl
theorem sB_eq : sB = mkS (2, 0, 0) (-1) 3000 [(0, (3, 0, 0, 0))] := by
  unfold sB
  rw [sA_eq, give_mk (by decide)]
  rfl
theorem sC_eq {c : Int} (h1 : 100 ≤ c) (h2 : c ≤ 699) : sC c = mkS (mC c) (dC c) 3000 (logC c) := by
  unfold sC
  rw [sB_eq, give_mk (by decide)]
  unfold mC dC logC
  by_cases h : c < 200
  · have : c ≤ 199 := by omega
    have e2 : dueG (2, 0, 0) (4, c, 0) (-1) 3000 = -1 := by unfold dueG; rw [if_neg (by simp; omega)]
    rw [e2]
    simp [stepR, mayS, from_, h, h1, this]
  · have h3 : ¬ c ≤ 199 := by omega
    have h4 : 200 ≤ c := by omega
    simp [stepR, mayS, from_, h, h1, h2, h3, h4, dueG]
theorem mC_may {c : Int} (h1 : 100 ≤ c) (h2 : c ≤ 699) : mayS (mC c) = true := by
  unfold mC
  by_cases h : c < 200
  · have : c ≤ 199 := by omega
    simp [mayS, from_, h, h1, this]
  · have h4 : 200 ≤ c := by omega
    simp [mayS, from_, h, h2, h4]
def sD (c t : Int) : Sim := untilS 200 (sC c) (3000 + t)
theorem sD_early {c t : Int} (h1 : 100 ≤ c) (h2 : c ≤ 699) (t0 : 0 ≤ t) (t1 : t < 32000) : sD c t = mkS (mC c) (dC c) (3000 + t) (logC c) := by
  unfold sD
  rw [sC_eq h1 h2, until_mk (mC_may h1 h2) 198, if_neg, show max 3000 (3000 + t) = 3000 + t by omega]
  unfold dC
  split <;> omega
theorem sD_low {c : Int} (h1 : 100 ≤ c) (h : c < 200) : sD c 32000 = mkS (3, 0, c) (-1) 35000 (logC c) := by
  unfold sD
  rw [sC_eq h1 (by omega), until_mk (mC_may h1 (by omega)) 198, if_neg]
  · simp [mC, dC, h]; rfl
  · simp [dC, h]
theorem sD_high {c : Int} (h : ¬ c < 200) (h2 : c ≤ 699) : sD c 32000 = mkS (7, 0, c) (-1) 35000 (logC c ++ [(35000, (7, 0, 0, 0))]) := by
  unfold sD
  rw [sC_eq (by omega) h2, until_mk (mC_may (by omega) h2) 198, if_pos]
  · simp [mC, dC, h]
  · simp [dC, h]
def sE (c t : Int) : Sim := giveS (sD c t) (6, 0, 0)
theorem sE_eq {c t : Int} (h1 : 100 ≤ c) (h2 : c ≤ 699) (t0 : 0 ≤ t) (t1 : t < 32000) : sE c t = mkS (7, 0, c) (dC c) (3000 + t) (logC c ++ [(3000 + t, (6, 0, 0, 0)), (3000 + t, (7, 0, 0, 0))]) := by
  unfold sE
  rw [sD_early h1 h2 t0 t1, give_mk (mC_may h1 h2)]
  have hm := mC_may h1 h2
  have e : stepR (mC c) (6, 0, 0) = ((7, 0, c), [(6, 0, 0, 0), (7, 0, 0, 0)]) := by
    unfold stepR
    rw [if_neg (by simp [hm]), if_neg (by simp), if_neg (by simp), if_neg (by simp), if_pos]
    · unfold mC; split <;> rfl
    · unfold mC; split <;> simp
  rw [e]
  simp [dueG]

theorem inv_C (c : Int) : Inv (sC c) := ((inv_start.until 198 (t := 3000) (by decide)).give (6, 0, 0)).give (4, c, 0)
theorem now_C {c : Int} (h1 : 100 ≤ c) (h2 : c ≤ 699) : (sC c).now = 3000 := by rw [sC_eq h1 h2]; rfl
theorem inv_D {c t : Int} (h1 : 100 ≤ c) (h2 : c ≤ 699) (t0 : 0 ≤ t) : Inv (sD c t) := (inv_C c).until 198 (by rw [now_C h1 h2]; omega)
theorem inv_E {c t : Int} (h1 : 100 ≤ c) (h2 : c ≤ 699) (t0 : 0 ≤ t) : Inv (sE c t) := (inv_D h1 h2 t0).give _
theorem failed_E {c t : Int} (h1 : 100 ≤ c) (h2 : c ≤ 699) (t0 : 0 ≤ t) (t1 : t < 32000) : countS (sE c t).log 6 (sE c t).now 0 1000 = 1 := by
  rw [sE_eq h1 h2 t0 t1, mk_log, mk_now]
  unfold logC
  split <;> simp [countS, hitS]
theorem failed_D {c : Int} (h : ¬ c < 200) (h2 : c ≤ 699) : countS (sD c 32000).log 6 (sD c 32000).now 0 1000 = 0 ∧ countS (sD c 32000).log 7 34999 0 1000 = 0 := by
  rw [sD_high h h2, mk_log, mk_now]
  unfold logC
  rw [if_neg h]
  simp [countS, hitS]
theorem ok_A : OkS 1700 sA := (startS_ok.until 200 (t := 3000) (by decide)).more (by omega)
theorem ok_C (c : Int) : OkS 1800 (sC c) := ((ok_A.give (6, 0, 0)).give (4, c, 0)).more (by omega)
theorem ok_D (c : Int) {t : Int} (h : t ≤ 32000) : OkS 3400 (sD c t) := ((ok_C c).until 200 (by omega)).more (by omega)
theorem ok_E (c : Int) {t : Int} (h : t ≤ 32000) : OkS 3500 (sE c t) := ((ok_D c h).give _).more (by omega)

/-- ServerKnown. -/
def k1 : Sim := giveS (giveS (giveS (giveS startS (5, 0, 10)) (4, 99, 0)) (4, 700, 0)) (3, 0, 0)
def k2 : Sim := giveS (giveS (giveS (giveS k1 (4, 404, 0)) (4, 500, 0)) (6, 0, 0)) (1, 0, 0)

end Go.Proofs.Ytilnibedblmoeaa

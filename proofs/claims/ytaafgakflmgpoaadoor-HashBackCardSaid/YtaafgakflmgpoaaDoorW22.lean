/- Unhex, both, where the text is good or bad. -/
import Derived.Test.YtaafgakflmgpoaaDoorW21
namespace Go.Proofs.YtaafgakflmgpoaaDoor
open Go.RowKit

theorem unhex_some {s : ByteArray} {y : List Int} (h : unhexS (bytesOf s) = some y) (hs : s.size ≤ 1000000) (w : World) : Calls Tryd.prog 23 #[.string s] w fun e w' => ∃ A c, e = .returned (.tuple #[.slice A y.length c, .int .u8 0]) ∧ y.length ≤ c ∧ c ≤ maxLen ∧ Rd w' w'.heap.size A (u8s y) ∧ Below w.heap.size w w' :=
  (unhex_any s w hs).mono fun e w' hp => by
    unfold UnhexP at hp
    rw [h] at hp
    obtain ⟨⟨A, c, h1, h2, h3, h4⟩, h5⟩ := hp
    exact ⟨A, c, h1, h2, h3, h4, h5⟩
theorem runhex_some {s : ByteArray} {y : List Int} (h : unhexS (bytesOf s) = some y) (hs : s.size ≤ 1000000) (w : World) : Calls Tryd.prog 24 #[.string s] w fun e w' => ∃ A c, e = .returned (.tuple #[.slice A y.length c, .int .u8 0]) ∧ y.length ≤ c ∧ c ≤ maxLen ∧ Rd w' w'.heap.size A (u8s y) ∧ Below w.heap.size w w' :=
  (runhex_any s w hs).mono fun e w' hp => by
    unfold UnhexP at hp
    rw [h] at hp
    obtain ⟨⟨A, c, h1, h2, h3, h4⟩, h5⟩ := hp
    exact ⟨A, c, h1, h2, h3, h4, h5⟩
theorem runhex_none {s : ByteArray} (h : unhexS (bytesOf s) = none) (hs : s.size ≤ 1000000) (w : World) : Calls Tryd.prog 24 #[.string s] w fun e w' => e = .returned (.tuple #[.slice none 0 0, .int .u8 5]) ∧ Below w.heap.size w w' :=
  (runhex_any s w hs).mono fun e w' hp => by
    unfold UnhexP at hp
    rw [h] at hp
    exact hp
theorem conv_nil (W : World) : (convert 22 9 (.slice none 0 0)).run Tryd.prog W = .ok (.string (strOf [])) W := conv_back (B := 0) 0 [] Rd.nil_ (fun _ h => by cases h)

end Go.Proofs.YtaafgakflmgpoaaDoor

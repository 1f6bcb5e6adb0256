/- The table's drawn region as a whole: whatever the order, the map holds the eight rows. -/
import Derived.Test.YtlcpadonjbaaeaaTab4
namespace Go.Proofs.Ytlcpadonjbaaeaa
open Go.RowKit

def keys8 : List Key := [(1, 5, 0, 1), (1, 5, 0, 2), (1, 6, 0, 0), (4, 2, 2, 0), (4, 5, 0, 13), (5, 2, 3, 0), (5, 5, 0, 4), (5, 6, 0, 0)]

theorem region_at {P : Program} {Q : Exit → Act → World → Prop} {id : Nat} {ops ops' : Array Oper} {a : Act} {w : World} (h : ops = ops') (hw : (Code.region id ops' true).wp P Q a w) : (Code.region id ops true).wp P Q a w := h ▸ hw

theorem region10 {w0 w2 : World} {B p3 p7 : Nat} {X : Nat → Value} {Q : Exit → Act → World → Prop} (h3 : w2.heap[p3]? = some (Obj.cells #[.int .u8 6, .int .i64 0, .int .u8 0] 68 (0, 0))) (hB : B ≤ w0.heap.size) (hb : Below B w0 w2)
    (h : ∀ X m w, X 10 = .map (some m) → MapI B w m keys8 → B ≤ m → m < w.heap.size → Below B w0 w → KeepC w2 w → Q .normal (actX p3 p7 X) w) : (Code.region 10 ops27 true).wp Try.prog Q (actX p3 p7 X) w2 := by
  refine wp_region_any (by kernel_rfl) (any_inv (InvT w0 w2 B p3 p7) ?_ ?_ _ _ _ _ ?_ ?_ ?_)
  · rintro listed a w i hs ⟨X, m, rfl, hp⟩ hi
    rw [ops27_size] at hs
    have hi53 : i < 53 := by
      obtain ⟨_, o, ho, _⟩ := mem_ready.1 hi
      have := (Array.getElem?_eq_some_iff.1 ho).1
      rwa [ops27_size] at this
    match i, hi53, hi with
    | 0, _, hi => exact op0 h3 hB hs hp hi
    | 1, _, hi => exact op1 h3 hB hs hp hi
    | 2, _, hi => exact op2 h3 hB hs hp hi
    | 3, _, hi => exact op3 h3 hB hs hp hi
    | 4, _, hi => exact op4 h3 hB hs hp hi
    | 5, _, hi => exact op5 h3 hB hs hp hi
    | 6, _, hi => exact op6 h3 hB hs hp hi
    | 7, _, hi => exact op7 h3 hB hs hp hi
    | 8, _, hi => exact op8 h3 hB hs hp hi
    | 9, _, hi => exact op9 h3 hB hs hp hi
    | 10, _, hi => exact op10 h3 hB hs hp hi
    | 11, _, hi => exact op11 h3 hB hs hp hi
    | 12, _, hi => exact op12 h3 hB hs hp hi
    | 13, _, hi => exact op13 h3 hB hs hp hi
    | 14, _, hi => exact op14 h3 hB hs hp hi
    | 15, _, hi => exact op15 h3 hB hs hp hi
    | 16, _, hi => exact op16 h3 hB hs hp hi
    | 17, _, hi => exact op17 h3 hB hs hp hi
    | 18, _, hi => exact op18 h3 hB hs hp hi
    | 19, _, hi => exact op19 h3 hB hs hp hi
    | 20, _, hi => exact op20 h3 hB hs hp hi
    | 21, _, hi => exact op21 h3 hB hs hp hi
    | 22, _, hi => exact op22 h3 hB hs hp hi
    | 23, _, hi => exact op23 h3 hB hs hp hi
    | 24, _, hi => exact op24 h3 hB hs hp hi
    | 25, _, hi => exact op25 h3 hB hs hp hi
    | 26, _, hi => exact op26 h3 hB hs hp hi
    | 27, _, hi => exact op27 h3 hB hs hp hi
    | 28, _, hi => exact op28 h3 hB hs hp hi
    | 29, _, hi => exact op29 h3 hB hs hp hi
    | 30, _, hi => exact op30 h3 hB hs hp hi
    | 31, _, hi => exact op31 h3 hB hs hp hi
    | 32, _, hi => exact op32 h3 hB hs hp hi
    | 33, _, hi => exact op33 h3 hB hs hp hi
    | 34, _, hi => exact op34 h3 hB hs hp hi
    | 35, _, hi => exact op35 h3 hB hs hp hi
    | 36, _, hi => exact op36 h3 hB hs hp hi
    | 37, _, hi => exact op37 h3 hB hs hp hi
    | 38, _, hi => exact op38 h3 hB hs hp hi
    | 39, _, hi => exact op39 h3 hB hs hp hi
    | 40, _, hi => exact op40 h3 hB hs hp hi
    | 41, _, hi => exact op41 h3 hB hs hp hi
    | 42, _, hi => exact op42 h3 hB hs hp hi
    | 43, _, hi => exact op43 h3 hB hs hp hi
    | 44, _, hi => exact op44 h3 hB hs hp hi
    | 45, _, hi => exact op45 h3 hB hs hp hi
    | 46, _, hi => exact op46 h3 hB hs hp hi
    | 47, _, hi => exact op47 h3 hB hs hp hi
    | 48, _, hi => exact op48 h3 hB hs hp hi
    | 49, _, hi => exact op49 h3 hB hs hp hi
    | 50, _, hi => exact op50 h3 hB hs hp hi
    | 51, _, hi => exact op51 h3 hB hs hp hi
    | 52, _, hi => exact op52 h3 hB hs hp hi
    | n + 53, hn, _ => exact absurd hn (by omega)
  · rintro listed a w hs ⟨X, m, rfl, hp⟩ hr
    have hall := all_listed hs ops27_back hr
    rw [ops27_size] at hall
    obtain ⟨h1, h2, h4⟩ := hp.map (hall 0 (by omega))
    refine h X m w (hp.vals 52 _ _ rfl (hall 52 (by omega))) (h1.congr fun k => ?_) h2 h4 hp.below hp.keep
    rw [mem_done]
    constructor
    · rintro ⟨i, g, _⟩
      have hd : ∀ p ∈ insT, p.2 ∈ keys8 := by decide +kernel
      exact hd _ g
    · intro hk
      have hd : ∀ k ∈ keys8, ∃ p ∈ insT, p.2 = k := by decide +kernel
      obtain ⟨p, hp1, rfl⟩ := hd k hk
      have hd2 : ∀ p ∈ insT, p.1 < 53 := by decide +kernel
      exact ⟨p.1, hp1, hall p.1 (hd2 p hp1)⟩
  · simp
  · rw [ops27_size]
    decide
  · refine ⟨X, 0, rfl, ⟨hb.os, hb.tape, hb.output, hb.size, hb.block⟩, ⟨Nat.le_refl _, fun _ _ _ h => h⟩, fun i s sp _ hl => ?_, fun j _ hl => ?_, fun hl => ?_⟩
    · exact absurd hl (by rw [ops27_size]; simp [Array.getD])
    · exact absurd hl (by rw [ops27_size]; simp [Array.getD])
    · exact absurd hl (by rw [ops27_size]; simp [Array.getD])

end Go.Proofs.Ytlcpadonjbaaeaa

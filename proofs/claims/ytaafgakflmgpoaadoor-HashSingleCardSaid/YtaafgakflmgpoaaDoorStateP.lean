/- The plain part: the hash's state; bytes fed one by one; the padding; the sum. No program in sight. -/
import Derived.Test.YtaafgakflmgpoaaDoorPlain
namespace Go.Proofs.YtaafgakflmgpoaaDoor

def zeros (n : Nat) : List Int := List.replicate n 0
theorem zeros_len (n : Nat) : (zeros n).length = n := by simp [zeros]

/-- A state: the hash value, how many bytes, those that wait. -/
structure St where
  v : V8
  n : Int
  t : List Int
/-- Where the next byte goes. -/
def St.at_ (s : St) : Nat := (s.n % 64).toNat
structure Wf (s : St) : Prop where
  len : s.t.length = 64
  good : ∀ i, 0 ≤ s.t.getD i 0 ∧ s.t.getD i 0 ≤ 255
  lo : 0 ≤ s.n
  hi : s.n ≤ 18446744073709551615
def canonS (s : St) : St := { s with t := s.t.take s.at_ ++ zeros (64 - s.at_) }
def byteS (s : St) (b : Int) : St :=
  if (s.n + 1) % 18446744073709551616 % 64 = 0 then ⟨blockS s.v (s.t.set s.at_ b), (s.n + 1) % 18446744073709551616, zeros 64⟩
  else ⟨s.v, (s.n + 1) % 18446744073709551616, s.t.set s.at_ b⟩
def bytesS (s : St) (l : List Int) : St := l.foldl byteS s
def feedS (s : St) (l : List Int) : St := bytesS (canonS s) l
def startS : St := ⟨firstV, 0, zeros 64⟩
/-- How many zeros go between 128 and the length. -/
def padN (n : Int) : Nat := ((119 - n % 64) % 64).toNat
def lenS (c : Int) : List Int := [c / 72057594037927936 % 256, c / 281474976710656 % 256, c / 1099511627776 % 256, c / 4294967296 % 256, c / 16777216 % 256, c / 65536 % 256, c / 256 % 256, c % 256]
def padS (n : Int) : List Int := 128 :: (zeros (padN n) ++ lenS (8 * n % 18446744073709551616))
def outB (x : Int) : List Int := [x / 16777216 % 256, x / 65536 % 256, x / 256 % 256, x % 256]
def outS (v : V8) : List Int := v.list.flatMap outB
def finishS (s : St) : List Int := outS (feedS s (padS s.n)).v
def sumS (l : List Int) : List Int := finishS (feedS startS l)

theorem St.at_lt (s : St) : s.at_ < 64 := by unfold St.at_; omega
theorem bytesS_append (s : St) (a b : List Int) : bytesS s (a ++ b) = bytesS (bytesS s a) b := List.foldl_append

def goodB (b : Int) : Prop := 0 ≤ b ∧ b ≤ 255
theorem getD_take_append {l : List Int} {p i : Nat} : (l.take p ++ zeros (64 - p)).getD i 0 = if i < p ∧ i < l.length then l.getD i 0 else 0 := by
  simp only [List.getD_eq_getElem?_getD, List.getElem?_append, List.length_take, zeros]
  by_cases h : i < p ∧ i < l.length
  · rw [if_pos (by omega), if_pos h, List.getElem?_take, if_pos h.1]
  · rw [if_neg (by omega), if_neg h]
    rw [List.getElem?_replicate]
    split <;> rfl
theorem Wf.canon {s : St} (h : Wf s) : Wf (canonS s) := by
  have ha := s.at_lt
  refine ⟨?_, fun i => ?_, h.lo, h.hi⟩
  · simp only [canonS, List.length_append, List.length_take, zeros_len, h.len]; omega
  · simp only [canonS]
    rw [getD_take_append]
    split
    · exact h.good i
    · omega
theorem getD_set (l : List Int) (p i : Nat) (b : Int) : (l.set p b).getD i 0 = if i = p ∧ p < l.length then b else l.getD i 0 := by
  simp only [List.getD_eq_getElem?_getD, List.getElem?_set]
  by_cases h : p = i
  · subst h
    by_cases hp : p < l.length
    · simp [hp]
    · simp [hp]
  · rw [if_neg h, if_neg (fun x => h x.1.symm)]
theorem Wf.byte {s : St} (h : Wf s) {b : Int} (hb : goodB b) : Wf (byteS s b) := by
  unfold byteS
  split
  · refine ⟨zeros_len 64, fun i => ?_, by simp only; omega, by simp only; omega⟩
    simp only [zeros, List.getD_eq_getElem?_getD, List.getElem?_replicate]
    split <;> simp
  · refine ⟨by simp [h.len], fun i => ?_, by simp only; omega, by simp only; omega⟩
    simp only
    rw [getD_set]
    split
    · exact hb
    · exact h.good i
theorem Wf.bytes {s : St} (h : Wf s) {l : List Int} (hl : ∀ b ∈ l, goodB b) : Wf (bytesS s l) := by
  induction l generalizing s with
  | nil => exact h
  | cons b l ih => exact ih (h.byte (hl b (by simp))) fun x hx => hl x (by simp [hx])
theorem Wf.feed {s : St} (h : Wf s) {l : List Int} (hl : ∀ b ∈ l, goodB b) : Wf (feedS s l) := h.canon.bytes hl
theorem start_wf : Wf startS := ⟨rfl, fun i => by
  simp only [startS, zeros, List.getD_eq_getElem?_getD, List.getElem?_replicate]
  split <;> simp, by simp [startS], by simp [startS]⟩

/-- The bytes that don't count are 0. -/
def Can (s : St) : Prop := canonS s = s
theorem canon_at (s : St) : (canonS s).at_ = s.at_ := rfl
theorem Can.canon {s : St} (_h : Wf s) : Can (canonS s) := by
  have ha := s.at_lt
  unfold Can canonS
  simp only [St.mk.injEq, true_and]
  show (s.t.take s.at_ ++ zeros (64 - s.at_)).take s.at_ ++ zeros (64 - s.at_) = _
  have hl : (s.t.take s.at_).length = s.at_ := by simp [_h.len]; omega
  rw [List.take_left' hl]
theorem can_iff {s : St} (h : Wf s) : Can s ↔ ∀ i, s.at_ ≤ i → s.t.getD i 0 = 0 := by
  have ha := s.at_lt
  constructor
  · intro hc i hi
    unfold Can at hc
    have : s.t = s.t.take s.at_ ++ zeros (64 - s.at_) := congrArg St.t hc.symm
    rw [this, getD_take_append, if_neg (by omega)]
  · intro hz
    unfold Can canonS
    cases s with
    | mk v n t =>
      simp only [St.mk.injEq, true_and]
      apply List.ext_getElem?
      intro i
      have hlen : t.length = 64 := h.len
      by_cases hi : i < 64
      · have e1 : (List.take (St.mk v n t).at_ t ++ zeros (64 - (St.mk v n t).at_)).length = 64 := by simp [hlen, zeros_len]; omega
        rw [List.getElem?_eq_getElem (by omega), List.getElem?_eq_getElem (by omega)]
        congr 1
        have g1 : ∀ (l : List Int) (hi : i < l.length), l[i] = l.getD i 0 := fun l hi => by simp [List.getD_eq_getElem?_getD, List.getElem?_eq_getElem hi]
        rw [g1, g1 t, getD_take_append]
        split
        · rfl
        · rename_i hn
          exact (hz i (by simp only [hlen] at hn; omega)).symm
      · rw [List.getElem?_eq_none (by simp [hlen, zeros_len]; omega), List.getElem?_eq_none (by omega)]
theorem Can.byte {s : St} (h : Wf s) (hc : Can s) {b : Int} (hb : goodB b) : Can (byteS s b) := by
  rw [can_iff (h.byte hb)]
  rw [can_iff h] at hc
  have ha := s.at_lt
  unfold byteS
  split
  · intro i _
    simp only [zeros, List.getD_eq_getElem?_getD, List.getElem?_replicate]
    split <;> rfl
  · rename_i hn
    intro i hi
    have e : (St.mk s.v ((s.n + 1) % 18446744073709551616) (s.t.set s.at_ b)).at_ = s.at_ + 1 := by
      unfold St.at_ at *
      simp only
      have := h.lo
      omega
    rw [e] at hi
    simp only
    rw [getD_set, if_neg (by omega)]
    exact hc i (by omega)
theorem Can.bytes {s : St} (h : Wf s) (hc : Can s) {l : List Int} (hl : ∀ b ∈ l, goodB b) : Can (bytesS s l) := by
  induction l generalizing s with
  | nil => exact hc
  | cons b l ih => exact ih (h.byte (hl b (by simp))) (Can.byte h hc (hl b (by simp))) fun x hx => hl x (by simp [hx])
theorem Can.feed {s : St} (h : Wf s) {l : List Int} (hl : ∀ b ∈ l, goodB b) : Can (feedS s l) := Can.bytes h.canon (Can.canon h) hl
/-- Two pieces are one. -/
theorem feedS_append {s : St} (h : Wf s) (a b : List Int) (ha : ∀ x ∈ a, goodB x) : feedS (feedS s a) b = feedS s (a ++ b) := by
  have hc : canonS (feedS s a) = feedS s a := Can.feed h ha
  show bytesS (canonS (feedS s a)) b = bytesS (canonS s) (a ++ b)
  rw [hc, bytesS_append]
  rfl

/-- A chunk that stays within the block. -/
def spl (t : List Int) (p : Nat) (cs : List Int) : List Int := t.take p ++ cs ++ t.drop (p + cs.length)
theorem take_set {t : List Int} {p : Nat} (hp : p < t.length) (b : Int) : (t.set p b).take (p + 1) = t.take p ++ [b] := by
  rw [List.take_add_one, List.getElem?_set_self hp, List.take_set_of_le (Nat.le_refl p)]
  rfl
theorem spl_cons {t : List Int} {p : Nat} (hp : p < t.length) (b : Int) (cs : List Int) : spl (t.set p b) (p + 1) cs = spl t p (b :: cs) := by
  unfold spl
  rw [take_set hp, List.drop_set_of_lt (by omega), List.length_cons, show p + 1 + cs.length = p + (cs.length + 1) by omega]
  simp
theorem spl_one {t : List Int} {p : Nat} (hp : p < t.length) (b : Int) : spl t p [b] = t.set p b := by
  have := spl_cons hp b []
  rw [← this]
  unfold spl
  simp
theorem byte_in {s : St} (h : Wf s) (b : Int) (hp : s.at_ + 1 < 64) : byteS s b = ⟨s.v, (s.n + 1) % 18446744073709551616, s.t.set s.at_ b⟩ := by
  unfold byteS
  rw [if_neg]
  unfold St.at_ at hp
  have := h.lo
  omega
theorem byte_out {s : St} (h : Wf s) (b : Int) (hp : s.at_ + 1 = 64) : byteS s b = ⟨blockS s.v (s.t.set s.at_ b), (s.n + 1) % 18446744073709551616, zeros 64⟩ := by
  unfold byteS
  rw [if_pos]
  unfold St.at_ at hp
  have := h.lo
  omega
theorem chunk {s : St} (h : Wf s) (cs : List Int) (hl : ∀ b ∈ cs, goodB b) (hc : s.at_ + cs.length ≤ 64) (h0 : 0 < cs.length) :
    bytesS s cs = if s.at_ + cs.length = 64 then ⟨blockS s.v (spl s.t s.at_ cs), (s.n + cs.length) % 18446744073709551616, zeros 64⟩
      else ⟨s.v, (s.n + cs.length) % 18446744073709551616, spl s.t s.at_ cs⟩ := by
  have hp : s.at_ < s.t.length := by rw [h.len]; exact s.at_lt
  induction cs generalizing s with
  | nil => simp at h0
  | cons b cs ih =>
    cases cs with
    | nil =>
      show byteS s b = _
      rw [spl_one hp]
      by_cases he : s.at_ + 1 = 64
      · rw [byte_out h b he, if_pos (by simpa using he)]; simp
      · rw [byte_in h b (by simp at hc; omega), if_neg (by simpa using he)]; simp
    | cons c cs =>
      have hin : s.at_ + 1 < 64 := by simp at hc; omega
      have hw := h.byte (hl b (by simp))
      have he := byte_in h b hin
      have hat : (byteS s b).at_ = s.at_ + 1 := by
        rw [he]
        unfold St.at_ at *
        simp only
        have := h.lo
        omega
      show bytesS (byteS s b) (c :: cs) = _
      rw [ih hw (fun x hx => hl x (by simp [hx])) (by rw [hat]; simp at hc ⊢; omega) (by simp) (by rw [hat, hw.len]; omega), hat]
      rw [he]
      simp only
      rw [spl_cons hp]
      have e1 : (((s.n + 1) % 18446744073709551616 + ((c :: cs).length : Nat)) % 18446744073709551616 : Int) = (s.n + ((b :: c :: cs).length : Nat)) % 18446744073709551616 := by
        simp only [List.length_cons]
        omega
      rw [e1]
      have e2 : (s.at_ + 1 + (c :: cs).length = 64) = (s.at_ + (b :: c :: cs).length = 64) := by
        simp only [List.length_cons, eq_iff_iff]; omega
      simp only [e2]

theorem good_of_mem {l : List Int} (h : ∀ b ∈ l, goodB b) : ∀ i, 0 ≤ l.getD i 0 ∧ l.getD i 0 ≤ 255 := by
  intro i
  rcases Nat.lt_or_ge i l.length with hi | hi
  · have : l.getD i 0 = l[i] := by simp [List.getD_eq_getElem?_getD, hi]
    rw [this]; exact h _ (List.getElem_mem hi)
  · rw [List.getD_eq_getElem?_getD, List.getElem?_eq_none hi]; simp
theorem good_mem {l : List Int} (h : ∀ i, 0 ≤ l.getD i 0 ∧ l.getD i 0 ≤ 255) : ∀ b ∈ l, goodB b := by
  intro b hb
  obtain ⟨i, hi, rfl⟩ := List.mem_iff_getElem.1 hb
  have := h i
  rwa [show l.getD i 0 = l[i] by simp [List.getD_eq_getElem?_getD, hi]] at this
theorem spl_good {t : List Int} (ht : ∀ i, 0 ≤ t.getD i 0 ∧ t.getD i 0 ≤ 255) (p : Nat) {cs : List Int} (hc : ∀ b ∈ cs, goodB b) : ∀ i, 0 ≤ (spl t p cs).getD i 0 ∧ (spl t p cs).getD i 0 ≤ 255 := by
  refine good_of_mem fun b hb => ?_
  unfold spl at hb
  rcases List.mem_append.1 hb with hb | hb
  · rcases List.mem_append.1 hb with hb | hb
    · exact good_mem ht b (List.mem_of_mem_take hb)
    · exact hc b hb
  · exact good_mem ht b (List.mem_of_mem_drop hb)
theorem spl_len {t : List Int} {p : Nat} {cs : List Int} (h : p + cs.length ≤ t.length) : (spl t p cs).length = t.length := by
  simp [spl]; omega

end Go.Proofs.YtaafgakflmgpoaaDoor

/- The plain law of RingOrder: what is pushed comes out, in order. -/
import Derived.Test.YtkajmoiehabnmaaE
set_option linter.unusedVariables false
set_option linter.unusedSimpArgs false
namespace Go.Proofs.Ytkajmoiehabnmaa

theorem mod2 {x n : Nat} (h : x < 2 * n) : x % n = if x < n then x else x - n := by
  split
  · exact Nat.mod_eq_of_lt ‹_›
  · rw [Nat.mod_eq_sub_mod (by omega), Nat.mod_eq_of_lt (by omega)]
theorem data_at {buf : List UInt8} {f m i : Nat} (hf : f < buf.length) (hm : m ≤ buf.length) (hi : i < m) : (dataOf buf f m)[i]? = buf[if f + i < buf.length then f + i else f + i - buf.length]? := by
  unfold dataOf
  split
  · rw [List.getElem?_take_of_lt hi, List.getElem?_drop, if_pos (by omega)]
  · rw [List.getElem?_append, List.length_drop]
    split
    · rw [List.getElem?_drop, if_pos (by omega)]
    · rw [List.getElem?_take_of_lt (by omega), if_neg (by omega)]
      congr 1
      omega
theorem put_at {buf ys : List UInt8} {a j : Nat} (h : a + ys.length ≤ buf.length) : (put buf a ys)[j]? = if a ≤ j ∧ j < a + ys.length then ys[j - a]? else buf[j]? := by
  unfold put
  rw [List.append_assoc, List.getElem?_append, List.length_take, List.getElem?_append]
  by_cases h1 : j < a
  · rw [if_pos (by omega), if_neg (by omega), List.getElem?_take_of_lt h1]
  · by_cases h2 : j < a + ys.length
    · rw [if_neg (by omega), if_pos (by omega), if_pos (by omega)]
      congr 1
      omega
    · rw [if_neg (by omega), if_neg (by omega), if_neg (by omega), List.getElem?_drop]
      congr 1
      omega

theorem pop_law {buf : List UInt8} {f m k q r t : Nat} (hq : min k m = q) (hr : (f + q) % buf.length = r) (ht : q + t = m) (hf : f < buf.length) (hm : m ≤ buf.length) :
    r < buf.length ∧ t ≤ buf.length ∧ (dataOf buf f m).take k ++ dataOf buf r t = dataOf buf f m := by
  have hn : 0 < buf.length := by omega
  have hr2 : r = if f + q < buf.length then f + q else f + q - buf.length := by rw [← hr, mod2 (by omega)]
  have hrl : r < buf.length := by rw [← hr]; exact Nat.mod_lt _ hn
  refine ⟨hrl, by omega, ?_⟩
  have hl1 := dataOf_length hf hm
  have hl2 := dataOf_length (m := t) hrl (by omega)
  apply List.ext_getElem?
  intro i
  rw [List.getElem?_append, List.length_take, hl1]
  by_cases h1 : i < q
  · rw [if_pos (by omega), List.getElem?_take_of_lt (by omega)]
  · rw [if_neg (by omega), hq]
    by_cases h2 : i < m
    · rw [data_at hrl (by omega) (by omega), data_at hf hm h2]
      congr 1
      rw [hr2]
      split <;> split <;> split <;> omega
    · rw [List.getElem?_eq_none (by omega), List.getElem?_eq_none (by omega)]

theorem push_law {buf s : List UInt8} {f m q a t k1 : Nat} (hq : min s.length (buf.length - m) = q) (ha : (f + m) % buf.length = a) (ht : m + q = t) (hk : min q (buf.length - a) = k1) (hf : f < buf.length) (hm : m ≤ buf.length) :
    (put (put buf a ((s.take q).take k1)) 0 ((s.take q).drop k1)).length = buf.length ∧ t ≤ buf.length ∧
    dataOf (put (put buf a ((s.take q).take k1)) 0 ((s.take q).drop k1)) f t = dataOf buf f m ++ s.take q := by
  have hn : 0 < buf.length := by omega
  have ha2 : a = if f + m < buf.length then f + m else f + m - buf.length := by rw [← ha, mod2 (by omega)]
  have hal : a < buf.length := by rw [← ha]; exact Nat.mod_lt _ hn
  have hl : (s.take q).length = q := by rw [List.length_take]; omega
  generalize s.take q = ps at hl
  have hl1 : (ps.take k1).length = k1 := by rw [List.length_take]; omega
  have hl2 : (ps.drop k1).length = q - k1 := by rw [List.length_drop]; omega
  have hp1 : (put buf a (ps.take k1)).length = buf.length := put_len (by omega)
  have hp2 : (put (put buf a (ps.take k1)) 0 (ps.drop k1)).length = buf.length := by rw [put_len (by omega), hp1]
  refine ⟨hp2, by omega, ?_⟩
  have hd := dataOf_length hf hm
  have hd2 := dataOf_length (buf := put (put buf a (ps.take k1)) 0 (ps.drop k1)) (f := f) (m := t) (by omega) (by omega)
  apply List.ext_getElem?
  intro i
  rw [List.getElem?_append, hd]
  by_cases h1 : i < t
  · rw [data_at (by omega) (by omega) h1, hp2, put_at (by omega), hl2, put_at (by omega), hl1]
    by_cases h2 : i < m
    · rw [if_pos h2, data_at hf hm h2]
      rw [if_neg (by split <;> split at ha2 <;> omega), if_neg (by split <;> split at ha2 <;> omega)]
    · rw [if_neg h2]
      by_cases h3 : i - m < k1
      · rw [if_neg (by split <;> split at ha2 <;> omega), if_pos (by split <;> split at ha2 <;> omega), List.getElem?_take_of_lt (by split <;> split at ha2 <;> omega)]
        congr 1
        split <;> split at ha2 <;> omega
      · rw [if_pos (by split <;> split at ha2 <;> omega), List.getElem?_drop]
        congr 1
        split <;> split at ha2 <;> omega
  · rw [List.getElem?_eq_none (by omega), if_neg (by omega), List.getElem?_eq_none (by omega)]
end Go.Proofs.Ytkajmoiehabnmaa

/- Plain laws of sectors that are too long or too short. -/
import Derived.Test.YtfonaceldfjneaaSealPlain
namespace Go.Proofs.Ytfonaceldfjneaa
theorem sealB_parts {k : Int} {l x : Bs} (h : sealB k l = some x) : 1 ≤ k ∧ l.length ≤ 505 ∧ x = UInt8.ofNat k.toNat :: (leBytes 2 l.length ++ (l ++ leBytes 4 (crcSum (sealHead k l)))) ∧ x.length = l.length + 7 := by
  unfold sealB at h
  split at h
  · rename_i hc
    injection h with h
    refine ⟨hc.1, hc.2, by rw [← h]; simp [sealHead], by rw [← h, List.length_append, sealHead_length, leBytes_length]⟩
  · cases h
theorem len_field {k : Int} {l x : Bs} (h : sealB k l = some x) (t : Bs) (ht : t.take 3 = x.take 3) : le ((t.drop 1).take 2) = l.length := by
  obtain ⟨_, h5, hx, _⟩ := sealB_parts h
  have e : (t.drop 1).take 2 = (t.take 3).drop 1 := by rw [List.drop_take]
  rw [e, ht, hx]
  simp [leBytes, le]
  omega
theorem open_more {k : Int} {l x : Bs} (h : sealB k l = some x) (m : Bs) (hm : m.length ≠ 0) : openR (x ++ m) = (0, [], 30) := by
  obtain ⟨_, h5, hx, hl⟩ := sealB_parts h
  refine openR_len (by simp; omega) ?_
  rw [len_field h (x ++ m) (by rw [List.take_append_of_le_length (by omega)])]
  simp; omega
theorem open_less {k : Int} {l x : Bs} (h : sealB k l = some x) (i : Nat) (hi : i < x.length) : openR (x.take i) = (0, [], 30) := by
  obtain ⟨_, h5, hx, hl⟩ := sealB_parts h
  have hlen : (x.take i).length = i := by simp; omega
  rcases Nat.lt_or_ge i 7 with h7 | h7
  · exact openR_short (by omega)
  · refine openR_len (by omega) ?_
    rw [len_field h (x.take i) (by rw [List.take_take, Nat.min_eq_left (by omega)]), hlen]
    omega
end Go.Proofs.Ytfonaceldfjneaa

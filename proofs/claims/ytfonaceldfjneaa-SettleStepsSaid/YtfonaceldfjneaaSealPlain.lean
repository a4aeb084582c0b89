/- Plain mathematics of layer 3: what is sealed and opened. Nothing of the program. -/
import Derived.Test.YtfonaceldfjneaaCrcPlain
namespace Go.Proofs.Ytfonaceldfjneaa
open Go.RowKit

/-- what a sector's bytes are -/
def sealHead (k : Int) (l : Bs) : Bs := UInt8.ofNat k.toNat :: (leBytes 2 l.length ++ l)
def sealB (k : Int) (l : Bs) : Option Bs :=
  if 1 ≤ k ∧ l.length ≤ 505 then some (sealHead k l ++ leBytes 4 (crcSum (sealHead k l))) else none
theorem sealHead_length (k : Int) (l : Bs) : (sealHead k l).length = l.length + 3 := by simp [sealHead, leBytes_length]; omega
theorem sealB_some {k : Int} {l : Bs} (h1 : 1 ≤ k) (h2 : l.length ≤ 505) : sealB k l = some (sealHead k l ++ leBytes 4 (crcSum (sealHead k l))) := by
  rw [sealB, if_pos ⟨h1, h2⟩]
def sealR (k : Int) (l : Bs) : Bs × Int := match sealB k l with | some x => (x, 0) | none => ([], 2)
theorem sealR_ok {k : Int} {l : Bs} (h1 : 1 ≤ k) (h2 : l.length ≤ 505) : sealR k l = (sealHead k l ++ leBytes 4 (crcSum (sealHead k l)), 0) := by
  rw [sealR, sealB_some h1 h2]
theorem sealR_bad {k : Int} {l : Bs} (h : ¬ (1 ≤ k ∧ l.length ≤ 505)) : sealR k l = ([], 2) := by rw [sealR, sealB, if_neg h]

/-- Open, as the document says it -/
def openR (s : Bs) : Int × Bs × Int :=
  if 7 ≤ s.length ∧ s.length ≤ 512 ∧ 1 ≤ (s.getD 0 0).toNat ∧ (s.getD 0 0).toNat ≤ 127 ∧ sealB (s.getD 0 0).toNat ((s.drop 3).take (s.length - 7)) = some s
  then ((s.getD 0 0).toNat, (s.drop 3).take (s.length - 7), 0) else (0, [], 30)

theorem parts_of (s : Bs) (h : 7 ≤ s.length) : s = [s.getD 0 0] ++ (s.drop 1).take 2 ++ (s.drop 3).take (s.length - 7) ++ s.drop (s.length - 4) := by
  have h1 : s = s.take 1 ++ (s.drop 1) := (List.take_append_drop 1 s).symm
  have h2 : s.drop 1 = (s.drop 1).take 2 ++ s.drop 3 := by
    have := (List.take_append_drop 2 (s.drop 1)).symm
    rwa [List.drop_drop] at this
  have h3 : s.drop 3 = (s.drop 3).take (s.length - 7) ++ s.drop (s.length - 4) := by
    have := (List.take_append_drop (s.length - 7) (s.drop 3)).symm
    rwa [List.drop_drop, show 3 + (s.length - 7) = s.length - 4 by omega] at this
  have h4 : s.take 1 = [s.getD 0 0] := by
    match s, h with
    | a :: t, _ => simp
  rw [h4] at h1
  rw [List.append_assoc, List.append_assoc, ← h3, ← h2]
  exact h1
theorem head_of (s : Bs) (h : 7 ≤ s.length) : s.take (s.length - 4) = [s.getD 0 0] ++ (s.drop 1).take 2 ++ (s.drop 3).take (s.length - 7) := by
  have h1 := parts_of s h
  have h2 : ([s.getD 0 0] ++ (s.drop 1).take 2 ++ (s.drop 3).take (s.length - 7)).length = s.length - 4 := by simp; omega
  conv => lhs; arg 2; rw [h1]
  rw [← h2]; exact List.take_left

/-- the program's tests say what the document says -/
theorem openR_iff (s : Bs) (h : 7 ≤ s.length) :
    sealB (s.getD 0 0).toNat ((s.drop 3).take (s.length - 7)) = some s ↔
      1 ≤ (s.getD 0 0).toNat ∧ s.length ≤ 512 ∧ le ((s.drop 1).take 2) = s.length - 7 ∧ le (s.drop (s.length - 4)) = crcSum (s.take (s.length - 4)) := by
  have hll : ((s.drop 3).take (s.length - 7)).length = s.length - 7 := by simp; omega
  have h2l : ((s.drop 1).take 2).length = 2 := by simp; omega
  have h4l : (s.drop (s.length - 4)).length = 4 := by simp; omega
  have hof : UInt8.ofNat ((s.getD 0 0).toNat : Int).toNat = s.getD 0 0 := by simp
  constructor
  · intro he
    unfold sealB at he
    split at he
    · rename_i hc
      rw [hll] at hc
      injection he with he
      replace he := he.trans (parts_of s h)
      rw [sealHead, hof, hll, show s.getD 0 0 :: (leBytes 2 (s.length - 7) ++ (s.drop 3).take (s.length - 7)) = [s.getD 0 0] ++ leBytes 2 (s.length - 7) ++ (s.drop 3).take (s.length - 7) by simp] at he
      have e1 := List.append_inj he (by simp [leBytes_length]; omega)
      have e2 := List.append_inj e1.1 (by simp [leBytes_length]; omega)
      have e3 := List.append_inj e2.1 rfl
      refine ⟨by omega, by omega, ?_, ?_⟩
      · rw [← e3.2, le_leBytes]; exact Nat.mod_eq_of_lt (by omega)
      · rw [← e1.2, le_leBytes, head_of s h, ← e1.1]
        exact Nat.mod_eq_of_lt (by have := crcSum_lt ([s.getD 0 0] ++ leBytes 2 (s.length - 7) ++ (s.drop 3).take (s.length - 7)); omega)
    · cases he
  · rintro ⟨h1, h2, h3, h4⟩
    rw [sealB_some (by omega) (by omega)]
    have e1 : sealHead (s.getD 0 0).toNat ((s.drop 3).take (s.length - 7)) = s.take (s.length - 4) := by
      have e2 := leBytes_le ((s.drop 1).take 2)
      rw [h2l, h3] at e2
      rw [sealHead, hof, hll, head_of s h, e2]
      simp
    have e3 := leBytes_le (s.drop (s.length - 4))
    rw [h4l, h4] at e3
    rw [e1, e3, List.take_append_drop]

theorem openR_short {s : Bs} (h : s.length < 7) : openR s = (0, [], 30) := by rw [openR, if_neg (by omega)]
theorem openR_long {s : Bs} (h : 512 < s.length) : openR s = (0, [], 30) := by rw [openR, if_neg (by omega)]
theorem openR_len {s : Bs} (h : 7 ≤ s.length) (hn : le ((s.drop 1).take 2) ≠ s.length - 7) : openR s = (0, [], 30) := by
  rw [openR, if_neg]; rintro ⟨_, _, _, _, he⟩; exact hn ((openR_iff s h).1 he).2.2.1
theorem openR_zero {s : Bs} (hn : (s.getD 0 0).toNat = 0) : openR s = (0, [], 30) := by rw [openR, if_neg (by omega)]
theorem openR_big {s : Bs} (hn : 127 < (s.getD 0 0).toNat) : openR s = (0, [], 30) := by rw [openR, if_neg (by omega)]
theorem openR_sum {s : Bs} (h : 7 ≤ s.length) (hn : le (s.drop (s.length - 4)) ≠ crcSum (s.take (s.length - 4))) : openR s = (0, [], 30) := by
  rw [openR, if_neg]; rintro ⟨_, _, _, _, he⟩; exact hn ((openR_iff s h).1 he).2.2.2
theorem openR_ok {s : Bs} (h : 7 ≤ s.length) (h5 : s.length ≤ 512) (h0 : 1 ≤ (s.getD 0 0).toNat) (h1 : (s.getD 0 0).toNat ≤ 127) (hn : le ((s.drop 1).take 2) = s.length - 7)
    (hs : le (s.drop (s.length - 4)) = crcSum (s.take (s.length - 4))) : openR s = (((s.getD 0 0).toNat : Int), (s.drop 3).take (s.length - 7), 0) := by
  rw [openR, if_pos ⟨h, h5, h0, h1, (openR_iff s h).2 ⟨h0, h5, hn, hs⟩⟩]

/-- Of -/
def ofR (k : Int) (s : Bs) : Bs × Int := if (openR s).2.2 = 0 ∧ (openR s).1 = k then ((openR s).2.1, 0) else ([], 30)

theorem openR_cases (s : Bs) : openR s = (0, [], 30) ∨ ∃ k l, openR s = (k, l, 0) ∧ 1 ≤ k ∧ k ≤ 127 ∧ l.length ≤ 505 ∧ sealB k l = some s := by
  unfold openR
  split
  · rename_i h
    exact .inr ⟨_, _, rfl, by omega, by omega, by simp; omega, h.2.2.2.2⟩
  · exact .inl rfl
/-- what was sealed is opened as it was -/
theorem openR_seal {k : Int} {l s : Bs} (hk : k ≤ 127) (h : sealB k l = some s) : openR s = (k, l, 0) := by
  unfold sealB at h
  split at h
  · rename_i hc
    injection h with h
    have hlen : s.length = l.length + 7 := by rw [← h, List.length_append, sealHead_length, leBytes_length]
    have h0 : s.getD 0 0 = UInt8.ofNat k.toNat := by rw [← h]; simp [sealHead]
    have h0' : (s.getD 0 0).toNat = k.toNat := by rw [h0]; simp; omega
    have hl : (s.drop 3).take (s.length - 7) = l := by
      rw [hlen, Nat.add_sub_cancel, ← h, sealHead]
      have : leBytes 2 l.length = [UInt8.ofNat (l.length % 256), UInt8.ofNat (l.length / 256 % 256)] := by simp [leBytes]
      rw [this]
      simp
    have hk' : ((s.getD 0 0).toNat : Int) = k := by omega
    rw [openR, if_pos, hl, hk']
    refine ⟨by omega, by omega, by omega, by omega, ?_⟩
    rw [hl, hk', sealB_some hc.1 hc.2, h]
  · cases h
end Go.Proofs.Ytfonaceldfjneaa

/- Plain mathematics of layer 7: lease sectors, leases, watches. -/
import Derived.Test.YtkmiknefbbjggaaBackPlain
namespace Go.Proofs.Ytkmiknefbbjggaa

def bytesR7 (key count : Int) : Bs × Int := if key < 1 ∨ count < 1 then ([], 2) else makeR 3 [] [6, 6] [key, count]
def seenR (s : Bs) : Int × Int :=
  match fieldsR 3 s [6, 6] with
  | ([a, b], [], 0) => if a < 1 ∨ b < 1 then (0, 0) else (a, b)
  | _ => (0, 0)
def overB (lease asked now : Int) : Bool := decide (asked < now ∧ lease < now - asked)
def deadB (wait key since : Int) (looked : Bool) (now : Int) : Bool := looked && decide (0 < key ∧ since ≤ now ∧ wait ≤ now - since)

theorem fits6 {n : Int} (h1 : 0 ≤ n) (h2 : n ≤ 1099511627776) : fitsB n 6 = true := decide_eq_true ⟨by omega, by omega, h1, by simp [mostW]; omega⟩
theorem bytes_ok {key count : Int} (h1 : 1 ≤ key) (h2 : key ≤ 1099511627776) (h3 : 1 ≤ count) (h4 : count ≤ 1099511627776) :
    ∃ x, bytesR7 key count = (x, 0) ∧ x.length = 19 ∧ seenR x = (key, count) := by
  have hf : fieldsB [] [6, 6] [key, count] = some (leBytes 6 key.toNat ++ leBytes 6 count.toNat) := by
    simp only [fieldsB, List.nil_append]
    rw [if_pos ⟨fits6 (by omega) h2, by rw [leBytes_length]; omega⟩, if_pos ⟨fits6 (by omega) h4, by simp [leBytes_length]⟩]
    rfl
  have hl : (leBytes 6 key.toNat ++ leBytes 6 count.toNat ++ []).length = 12 := by simp [leBytes_length]
  have hs : sealB 3 (leBytes 6 key.toNat ++ leBytes 6 count.toNat ++ []) = some _ := sealB_some (by omega) (by omega)
  have hlen := (sealB_len hs).2.2
  have hfr := fieldsR_make (by omega) hf hs
  refine ⟨_, ?_, by rw [hlen, hl], ?_⟩
  · rw [bytesR7, if_neg (by omega), makeR, hf]
    show sealR 3 _ = _
    rw [sealR, hs]
  · rw [seenR, hfr]
    exact if_neg (by omega)
theorem seenR_fail {s : Bs} (h : fieldsR 3 s [6, 6] = ([], [], 30)) : seenR s = (0, 0) := by rw [seenR, h]
theorem fieldsR_cases (k : Int) (s : Bs) (ws : List Int) : fieldsR k s ws = ([], [], 30) ∨ ∃ l rest, fieldsR k s ws = (l, rest, 0) ∧ l.length = ws.length := by
  unfold fieldsR
  have ho : (ofR k s).2 = 0 ∨ (ofR k s).2 = 30 := by unfold ofR; split <;> simp
  rcases ho with ho | ho
  · rw [if_pos ho]
    cases ht : takeF (ofR k s).1 ws with
    | none => exact .inl rfl
    | some r => exact .inr ⟨r.1, r.2, rfl, (takeF_le _ _ _ ht).2⟩
  · rw [if_neg (by omega), ho]; exact .inl rfl
theorem getS_bd {s : Bs} {w : Int} : 0 ≤ (getS s 0 w).1 ∧ (getS s 0 w).1 ≤ 1099511627776 := by
  unfold getS
  split
  · split
    · split
      · dsimp only; omega
      · simp
    · simp
  · simp
theorem takeF_bd (s : Bs) (ws : List Int) (r : List Int × Bs) (h : takeF s ws = some r) : ∀ n ∈ r.1, 0 ≤ n ∧ n ≤ 1099511627776 := by
  induction ws generalizing s r with
  | nil => simp [takeF] at h; subst h; simp
  | cons w ws ih =>
    simp only [takeF] at h
    split at h
    · cases ht : takeF (s.drop w.toNat) ws with
      | none => rw [ht] at h; simp at h
      | some q =>
        rw [ht] at h
        simp at h
        subst h
        intro n hn
        simp at hn
        rcases hn with rfl | hn
        · exact getS_bd
        · exact ih _ _ ht n hn
    · cases h
end Go.Proofs.Ytkmiknefbbjggaa

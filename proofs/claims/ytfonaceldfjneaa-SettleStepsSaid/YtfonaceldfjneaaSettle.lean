/- The walks of settle: end, next, act. -/
import Derived.Test.YtfonaceldfjneaaSettlePlain
import Derived.Test.YtfonaceldfjneaaCells
import Derived.BigRegion
namespace Go.Proofs.Ytfonaceldfjneaa
open Go.RowKit

abbrev crs (v : Value) (s : St) (sec : Int) (hd : ByteArray) : Array Value := #[v, .int .i64 s.1, .int .i64 s.2.1, .int .i8 s.2.2, .int .i64 sec, .string hd]
theorem Blk.cells6 {w : World} {g : Nat} {t : TypeId} {a0 a1 a2 a3 a4 a5 : Value} (h : Blk w g t #[a0, a1, a2, a3, a4, a5]) : w.cell? ⟨g, 0, none⟩ = some a0 ∧ w.cell? ⟨g, 1, none⟩ = some a1 ∧ w.cell? ⟨g, 2, none⟩ = some a2 ∧ w.cell? ⟨g, 3, none⟩ = some a3 ∧ w.cell? ⟨g, 4, none⟩ = some a4 ∧ w.cell? ⟨g, 5, none⟩ = some a5 :=
  ⟨h.cell 0, h.cell 1, h.cell 2, h.cell 3, h.cell 4, h.cell 5⟩
theorem Blk.frozen6 {w : World} {g : Nat} {t : TypeId} {cs : Array Value} (h : Blk w g t cs) : w.frozen? ⟨g, 0, none⟩ = false ∧ w.frozen? ⟨g, 1, none⟩ = false ∧ w.frozen? ⟨g, 2, none⟩ = false ∧ w.frozen? ⟨g, 3, none⟩ = false ∧ w.frozen? ⟨g, 4, none⟩ = false ∧ w.frozen? ⟨g, 5, none⟩ = false :=
  ⟨h.frozen 0, h.frozen 1, h.frozen 2, h.frozen 3, h.frozen 4, h.frozen 5⟩

theorem end6_any (b : Nat) (v : Value) (s : St) (sec : Int) (hd : ByteArray) (w : World) (hb : Blk w b 85 (crs v s sec hd)) :
    Calls Try.prog 35 #[.pointer (some ⟨b, 0, none⟩)] w fun e w' => e = .returned (.bool (decide (2 < s.2.2))) ∧ w = w' := by
  obtain ⟨c0, c1, c2, c3, c4, c5⟩ := hb.cells6
  clear hb
  go_enter Try.func35, Try.ntmps35
  go_wp2
  go_ret
  exact ⟨rfl, rfl⟩

def NextPost (b : Nat) (v : Value) (s : St) (sec : Int) (hd : ByteArray) (w : World) (e : Ending) (w' : World) : Prop :=
  e = .returned (.tuple #[]) ∧ Blk w' b 85 (crs v s sec hd) ∧ w.grownBy w' (some b)
set_option maxHeartbeats 1000000 in
set_option maxRecDepth 100000 in
theorem next_any (b : Nat) (A : Option Addr) (n c : Nat) (s : St) (sec : Int) (hd : ByteArray) (w : World) (h1 : 0 ≤ s.1) (h2 : s.1 ≤ 1000000) (h3 : 0 ≤ s.2.1) (h4 : s.2.1 ≤ 1000000) (h5 : 0 ≤ s.2.2) (h6 : s.2.2 ≤ 3)
    (hb : Blk w b 85 (crs (.slice A n c) s sec hd)) :
    Calls Try.prog 36 #[.pointer (some ⟨b, 0, none⟩)] w fun e w' => NextPost b (.slice A n c) (stNext n s) sec hd w e w' := by
  obtain ⟨i, l, a⟩ := s
  dsimp only at *
  obtain ⟨c0, c1, c2, c3, c4, c5⟩ := hb.cells6
  dsimp only at c1 c2 c3
  obtain ⟨f0, f1, f2, f3, f4, f5⟩ := hb.frozen6
  have HBK := Lib.hid hb; clear hb
  have HG := Lib.hid (World.grownBy.refl w (some b))
  have hcase : a = 0 ∨ a = 1 ∨ a = 2 ∨ a = 3 := by omega
  rcases hcase with rfl | rfl | rfl | rfl
  · by_cases hlt : (n : Int) ≤ i + 1
    · have hs : stNext n (i, l, 0) = ((i + 1, (n : Int), 1) : St) := by simp [stNext, hlt]
      rw [hs]
      have d1 : decide ((n : Int) ≤ i + 1) = true := decide_eq_true hlt
      clear hs
      go_enter Try.func36, Try.ntmps36
      go_wp2_with fail
      go_quiet (fail)
      go_wp2_with fail
      go_end0
      refine ⟨rfl, ?_, ?_⟩
      · exact (((HBK.out.set_ 1 _).drewN _).set_ 3 _).set_ 2 _
      · exact only_setCell (only_setCell (only_drewN (only_setCell HG.out (.inl rfl) _) _) (.inl rfl) _) (.inl rfl) _
    · have hs : stNext n (i, l, 0) = ((i + 1, l, 0) : St) := by simp [stNext, hlt]
      rw [hs]
      have d1 : decide ((n : Int) ≤ i + 1) = false := decide_eq_false hlt
      clear hs
      go_enter Try.func36, Try.ntmps36
      go_wp2_with fail
      go_quiet (fail)
      go_wp2_with fail
      go_end0
      refine ⟨rfl, ?_, ?_⟩
      · exact (HBK.out.set_ 1 _).drewN _
      · exact only_drewN (only_setCell HG.out (.inl rfl) _) _
  · by_cases hlt : l - 1 ≤ 0
    · have hs : stNext n (i, l, 1) = ((i, 0, 2) : St) := by simp [stNext]; omega
      rw [hs]
      clear hs
      go_enter Try.func36, Try.ntmps36
      go_wp2_with fail
      go_end0
      refine ⟨rfl, ?_, ?_⟩
      · exact ((HBK.out.set_ 2 _).set_ 3 _).set_ 2 _
      · exact only_setCell (only_setCell (only_setCell HG.out (.inl rfl) _) (.inl rfl) _) (.inl rfl) _
    · have hs : stNext n (i, l, 1) = ((i, l - 1, 1) : St) := by simp [stNext]; omega
      rw [hs]
      clear hs
      go_enter Try.func36, Try.ntmps36
      go_wp2_with fail
      go_end0
      refine ⟨rfl, ?_, ?_⟩
      · exact HBK.out.set_ 2 _
      · exact only_setCell HG.out (.inl rfl) _
  · have hs : stNext n (i, l, 2) = ((i, l, 3) : St) := by simp [stNext]
    rw [hs]
    clear hs
    go_enter Try.func36, Try.ntmps36
    go_wp2_with fail
    go_end0
    refine ⟨rfl, ?_, ?_⟩
    · exact HBK.out.set_ 3 _
    · exact only_setCell HG.out (.inl rfl) _
  · have hs : stNext n (i, l, 3) = ((i, l, 3) : St) := by simp [stNext]
    rw [hs]
    clear hs
    go_enter Try.func36, Try.ntmps36
    go_wp2_with fail
    go_end0
    refine ⟨rfl, ?_, ?_⟩
    · exact HBK.out
    · exact HG.out
end Go.Proofs.Ytfonaceldfjneaa

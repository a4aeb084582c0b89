/- crc: the walks. -/
import Derived.Test.YtfonaceldfjneaaNum
import Derived.Test.YtfonaceldfjneaaWords
import Derived.Test.YtfonaceldfjneaaCrcPlain
import Derived.StillTailTactics
namespace Go.Proofs.Ytfonaceldfjneaa
open Go.RowKit

def fourV : List Value := (List.range 16).map fun i => .int .u32 ((steps 4 i : Nat) : Int)
def tabAt (j : Nat) : List Value := (List.range 16).map fun i => .int .u32 (((if i < j then steps 4 i else 0) : Nat) : Int)
theorem tabAt_len (j : Nat) : (tabAt j).length = 16 := by simp [tabAt]
theorem tabAt_set (j : Nat) (hj : j < 16) : (tabAt j).set j (.int .u32 ((steps 4 j : Nat) : Int)) = tabAt (j + 1) := by
  apply List.ext_getElem?
  intro i
  rw [List.getElem?_set]
  by_cases hi : i < 16
  · by_cases hij : j = i
    · subst hij; simp [tabAt, hi]
    · simp only [tabAt, hij, if_false, List.getElem?_map, List.getElem?_range hi, Option.map_some]
      by_cases h : i < j
      · simp [h, Nat.lt_succ_of_lt h]
      · have : ¬ i < j + 1 := by omega
        simp [h, this]
  · have h2 : ¬ j = i := by omega
    simp [tabAt, hi, h2]
theorem tabAt_16 : tabAt 16 = fourV := by
  unfold tabAt fourV
  apply List.map_congr_left
  intro i hi
  simp at hi
  simp [hi]

set_option maxHeartbeats 1000000 in
set_option maxRecDepth 100000 in
theorem begin_any (w : World) :
    Calls Try.prog 77 #[.int .i64 0] w fun e w' => e = .returned (.pointer (some ⟨w.heap.size, 0, none⟩)) ∧ Blk w' w.heap.size 136 (.int .u32 4294967295 :: fourV).toArray ∧ Below w.heap.size w w' := by
  go_enter Try.func77, Try.ntmps77
  go_wp2
  have hst : Blk (w.alloc (Obj.cells
      #[Value.int IntKind.u32 (bits BinOp.xor IntKind.u32 IntKind.u32.max 0), Value.int IntKind.u32 0,
        Value.int IntKind.u32 0, Value.int IntKind.u32 0, Value.int IntKind.u32 0, Value.int IntKind.u32 0,
        Value.int IntKind.u32 0, Value.int IntKind.u32 0, Value.int IntKind.u32 0, Value.int IntKind.u32 0,
        Value.int IntKind.u32 0, Value.int IntKind.u32 0, Value.int IntKind.u32 0, Value.int IntKind.u32 0,
        Value.int IntKind.u32 0, Value.int IntKind.u32 0, Value.int IntKind.u32 0] 136)) w.heap.size 136 (.int .u32 4294967295 :: tabAt 0).toArray := Blk.new w _ _
  have HST := Lib.hid hst; clear hst
  go_loopg [12] 16 (fun k i wr => ∃ j : Nat, j ≤ 16 ∧ k = 16 - j ∧ i = .int .i64 j ∧ Blk wr w.heap.size 136 (.int .u32 4294967295 :: tabAt j).toArray ∧ Below w.heap.size w wr)
  case atStart => exact ⟨0, by omega, rfl, rfl, HST.out, (Below.refl _ _).alloc (Nat.le_refl _) _⟩
  case round =>
    clear HST
    obtain ⟨j, hj, rfl, rfl, hblk, hB⟩ := hrel
    by_cases hlt : j < 16
    · have hcw : IntKind.u32.wrap (j : Int) = j := by rw [IntKind.wrap_u32']; omega
      go_wp2
      go_loopg [5, 17] 4 (fun k x i wr' => ∃ t : Nat, t ≤ 4 ∧ k = 4 - t ∧ i = .int .i64 t ∧ x = .int .u32 ((steps t j : Nat) : Int) ∧ wr' = wr)
      case atStart => exact ⟨0, by omega, rfl, rfl, by simp [steps], rfl⟩
      case round =>
        rename_i wo
        obtain ⟨t, ht, rfl, rfl, rfl, rfl⟩ := hrel
        have hxl : steps t j < 4294967296 := steps_lt t (by omega)
        by_cases htn : t < 4
        · have hs := u32_step (steps t j) hxl
          have HS := Lib.hid hs; clear hs
          go_wp2
          go_roundg (4 - (t + 1))
          case rel => exact ⟨t + 1, by omega, rfl, by go_num, congrArg (Value.int .u32) HS.out, rfl⟩
          case measure => omega
        · obtain rfl : t = 4 := by omega
          have hc := hblk.cell (1 + j)
          have hf := hblk.frozen (1 + j)
          have hc2 : wr.cell? ⟨w.heap.size, 1 + j, none⟩ = some (.int .u32 0) := by rw [hc, Nat.add_comm]; simp [tabAt, hlt]
          clear hc
          have hB' := (hB.setCell (p := ⟨w.heap.size, 1 + j, none⟩) (Nat.le_refl _) (.int .u32 ((steps 4 j : Nat) : Int)))
          have hblk' := hblk.set_ (1 + j) (.int .u32 ((steps 4 j : Nat) : Int))
          rw [show ((.int .u32 4294967295 :: tabAt j).toArray : Array Value).setIfInBounds (1 + j) (.int .u32 ((steps 4 j : Nat) : Int)) = (.int .u32 4294967295 :: tabAt (j + 1)).toArray by rw [← tabAt_set j hlt, Nat.add_comm]; simp] at hblk'
          have HB' := Lib.hid hB'; clear hB' hB
          have HK' := Lib.hid hblk'; clear hblk' hblk
          go_wp2
          go_roundg (16 - (j + 1))
          case rel => exact ⟨j + 1, by omega, rfl, by go_num, HK'.out, HB'.out⟩
          case measure => omega
    · obtain rfl : j = 16 := by omega
      rw [tabAt_16] at hblk
      go_wp2
      go_ret
      exact ⟨rfl, hblk, hB⟩

theorem fourV_get (x : Nat) : fourV[x % 16]? = some (.int .u32 ((steps 4 (x % 16) : Nat) : Int)) := by
  have : x % 16 < 16 := by omega
  simp [fourV, this]
theorem u32_shr4 (x : Nat) : ((x : Int) / 16) = ((x / 16 : Nat) : Int) := by simp
theorem u32_mask (x : Nat) (h : x < 4294967296) : bits .and .u32 (x : Int) 15 = ((x % 16 : Nat) : Int) := by
  have := u32_and_nat x 15 h (by omega)
  rw [nat_mask4] at this
  exact this
/-- one half of a byte's step -/
def half (x : Nat) : Nat := x / 16 ^^^ steps 4 (x % 16)
theorem half_lt {x : Nat} (h : x < 4294967296) : half x < 4294967296 := by
  unfold half; rw [← nibble]; exact steps_lt 4 h
theorem half_half (x : Nat) (c : UInt8) : half (half (x ^^^ c.toNat)) = crcByte x c := by
  unfold crcByte half; rw [byte_nibbles]
theorem u32_half (x : Nat) (h : x < 4294967296) : bits .xor .u32 ((x : Int) / 16) ((steps 4 (x % 16) : Nat) : Int) = ((half x : Nat) : Int) := by
  have := steps_lt (x := x % 16) 4 (by omega)
  rw [u32_shr4, u32_xor_nat _ _ (by omega) this]; rfl

set_option maxHeartbeats 1000000 in
set_option maxRecDepth 100000 in
theorem cput_any (g x : Nat) (A : Option Addr) (c : Nat) (l : Bs) (w : World) (hx : x < 4294967296) (hbd : l.length ≤ 1000000000)
    (hblk : Blk w g 136 (.int .u32 x :: fourV).toArray) (hr : Reads w w.heap.size 1 A l.length (bcells l)) (hne : ∀ ad, 0 < l.length → A = some ad → ad.block ≠ g) :
    Calls Try.prog 78 #[.pointer (some ⟨g, 0, none⟩), .slice A l.length c] w fun e w' => e = .returned (.pointer (some ⟨g, 0, none⟩)) ∧ Blk w' g 136 (.int .u32 (crcReg x l) :: fourV).toArray ∧ w.grownBy w' (some g) := by
  go_enter Try.func78, Try.ntmps78
  go_wp2
  go_loopg [9] l.length (fun k i wr => ∃ j : Nat, j ≤ l.length ∧ k = l.length - j ∧ i = .int .i64 j ∧ Blk wr g 136 (.int .u32 (crcReg x (l.take j)) :: fourV).toArray ∧ w.grownBy wr (some g))
  case atStart => exact ⟨0, by omega, rfl, rfl, hblk, World.grownBy.refl _ _⟩
  case round =>
    obtain ⟨j, hj, rfl, rfl, hblk', hG⟩ := hrel
    have HN := Lib.hid hne; clear hne
    by_cases hlt : j < l.length
    · obtain ⟨ad, rfl, had, hc⟩ := hr.cell_ hlt (bcells_get l j hlt)
      have hc' : wr.cell? (ad.add j) = some (.int .u8 (l[j].toNat : Int)) := hG.cell hc (by rw [block_of_add]; intro e; injection e with e; exact HN.out ad (by omega) rfl e)
      have hxl : crcReg x (l.take j) < 4294967296 := crcReg_lt hx _
      have hsn : crcReg x (l.take (j + 1)) = crcByte (crcReg x (l.take j)) l[j] := by rw [List.take_succ_eq_append_getElem hlt, crcReg_snoc]
      rw [← half_half] at hsn
      have HS := Lib.hid hsn; clear hsn hc hr hblk
      generalize crcReg x (l.take j) = y at *
      have hcl := l[j].toNat_lt
      generalize l[j].toNat = z at *
      have hxx := u32_xor_nat y z hxl (by omega)
      have h1 := hblk'.cell 0
      have h2 := hblk'.frozen 0
      have h1' : wr.cell? ⟨g, 0, none⟩ = some (.int .u32 y) := by rw [h1]; rfl
      clear h1
      have hzw : IntKind.u32.wrap (z : Int) = z := by rw [IntKind.wrap_u32']; omega
      have hb1 := hblk'.set_ 0 (.int .u32 ((y ^^^ z : Nat) : Int))
      have hG1 := only_setCell hG (p := ⟨g, 0, none⟩) (.inl rfl) (.int .u32 ((y ^^^ z : Nat) : Int))
      have HB1 := Lib.hid hb1; clear hb1 hblk'
      have HG1 := Lib.hid hG1; clear hG1 hG
      go_wp2
      have hpl : y ^^^ z < 4294967296 := Nat.xor_lt_two_pow (n := 32) (by omega) (by omega)
      clear h1' h2 hxx hzw hc' hcl hxl
      have hb1 : Blk (wr.setCell ⟨g, 0, none⟩ (.int .u32 ((y ^^^ z : Nat) : Int))) g 136 (.int .u32 ((y ^^^ z : Nat) : Int) :: fourV).toArray := HB1.out
      have hg1 := HG1.out
      clear HB1 HG1
      generalize wr.setCell ⟨g, 0, none⟩ (.int .u32 ((y ^^^ z : Nat) : Int)) = W1 at *
      generalize y ^^^ z = p at *
      have a1 : W1.cell? ⟨g, 0, none⟩ = some (.int .u32 p) := by rw [hb1.cell 0]; rfl
      have a2 : W1.cell? ⟨g, 1 + p % 16, none⟩ = some (.int .u32 ((steps 4 (p % 16) : Nat) : Int)) := by rw [hb1.cell, Nat.add_comm]; simpa using fourV_get p
      have a3 := hb1.frozen 0
      have a4 := u32_mask p hpl
      have a5 := u32_half p hpl
      have HB1 := Lib.hid hb1; clear hb1
      have HG1 := Lib.hid hg1; clear hg1
      have hr16 : p % 16 < 16 := by omega
      generalize p % 16 = r at *
      have b1 : (0 : Int) ≤ (r : Int) := by omega
      have b2 : (r : Int) < 16 := by omega
      go_still_tail 22, (by kernel_rfl)
      change wpList _ _ _ _ _ W1.drew
      go_wp2
      have hpl2 := half_lt hpl
      have hb2 := (HB1.out.set_ 0 (.int .u32 ((half p : Nat) : Int))).drew
      have hg2 := only_drew (only_setCell HG1.out (p := ⟨g, 0, none⟩) (.inl rfl) (.int .u32 ((half p : Nat) : Int)))
      clear a1 a2 a3 a4 a5 b1 b2 HB1 HG1 hr16 hpl
      generalize (W1.setCell ⟨g, 0, none⟩ (.int .u32 ((half p : Nat) : Int))).drew = W2 at *
      generalize half p = p2 at *
      replace hb2 : Blk W2 g 136 (.int .u32 (p2 : Int) :: fourV).toArray := hb2
      have a1 : W2.cell? ⟨g, 0, none⟩ = some (.int .u32 p2) := by rw [hb2.cell 0]; rfl
      have a2 : W2.cell? ⟨g, 1 + p2 % 16, none⟩ = some (.int .u32 ((steps 4 (p2 % 16) : Nat) : Int)) := by rw [hb2.cell, Nat.add_comm]; simpa using fourV_get p2
      have a3 := hb2.frozen 0
      have a4 := u32_mask p2 hpl2
      have a5 := u32_half p2 hpl2
      have HB2 := Lib.hid hb2; clear hb2
      have HG2 := Lib.hid hg2; clear hg2
      have hr16 : p2 % 16 < 16 := by omega
      generalize p2 % 16 = r at *
      have b1 : (0 : Int) ≤ (r : Int) := by omega
      have b2 : (r : Int) < 16 := by omega
      go_still_tail 22, (by kernel_rfl)
      change wpList _ _ _ _ _ W2.drew
      go_wp2
      have hb3 := (HB2.out.set_ 0 (.int .u32 ((half p2 : Nat) : Int))).drew
      have hg3 := only_drew (only_setCell HG2.out (p := ⟨g, 0, none⟩) (.inl rfl) (.int .u32 ((half p2 : Nat) : Int)))
      go_roundg (l.length - (j + 1))
      case rel => exact ⟨j + 1, by omega, rfl, by go_num, by rw [HS.out]; exact hb3, hg3⟩
      case measure => omega
    · obtain rfl : j = l.length := by omega
      rw [List.take_length] at hblk'
      go_wp2
      go_ret
      exact ⟨rfl, hblk', hG⟩

theorem turned_any (g x : Nat) (w : World) (hx : x < 4294967296) (cs : List Value) (hblk : Blk w g 136 (.int .u32 x :: cs).toArray) :
    Calls Try.prog 79 #[.pointer (some ⟨g, 0, none⟩)] w fun e w' => e = .returned (.int .i64 ((x ^^^ 4294967295 : Nat) : Int)) ∧ w = w' := by
  have a1 : w.cell? ⟨g, 0, none⟩ = some (.int .u32 x) := by rw [hblk.cell 0]; rfl
  have a2 : bits .xor .u32 4294967295 (x : Int) = ((x ^^^ 4294967295 : Nat) : Int) := by
    have := u32_xor_nat 4294967295 x (by omega) hx
    rw [Nat.xor_comm] at this; exact this
  have a4 : x ^^^ 4294967295 < 4294967296 := Nat.xor_lt_two_pow (n := 32) (by omega) (by omega)
  have a3 : bits .xor .u32 IntKind.u32.max (x : Int) = ((x ^^^ 4294967295 : Nat) : Int) := a2
  clear hblk
  generalize x ^^^ 4294967295 = y at *
  go_enter Try.func79, Try.ntmps79
  go_wp2
  go_ret
  exact ⟨congrArg (fun z => Ending.returned (.int .i64 z)) (by unfold wrap64; omega), rfl⟩

set_option maxHeartbeats 400000 in
theorem Add_any (A : Option Addr) (c : Nat) (l : Bs) (w : World) (hbd : l.length ≤ 1000000000) (hr : Reads w w.heap.size 1 A l.length (bcells l)) :
    Calls Try.prog 72 #[.int .i64 0, .slice A l.length c] w fun e w' => e = .returned (.int .i64 (crcSum l)) ∧ Below w.heap.size w w' := by
  have HR := Lib.hid hr; clear hr
  go_enter Try.func72, Try.ntmps72
  go_wp2_with fail
  refine (begin_any w).mono ?_
  rintro e w1 ⟨rfl, hblk, hB⟩
  go_wp2_with fail
  refine (cput_any _ 4294967295 A c l w1 (by omega) hbd hblk ((HR.out.below hB).more hB.size) (fun ad h0 h => by have := HR.out.lt_addr ad h0 h; omega)).mono ?_
  rintro e w2 ⟨rfl, hblk2, hG⟩
  have hlt := crcReg_lt (x := 4294967295) (by omega) l
  have HB2 := Lib.hid hblk2; clear hblk2
  go_wp2_with fail
  refine (turned_any _ _ w2 hlt _ HB2.out).mono ?_
  rintro e w3 ⟨rfl, rfl⟩
  go_wp2_with fail
  go_ret
  exact ⟨rfl, hB.grown hG hB.size (fun k hk => by injection hk with hk; omega)⟩

theorem Sum_any (A : Option Addr) (c : Nat) (l : Bs) (w : World) (hbd : l.length ≤ 1000000000) (hr : Reads w w.heap.size 1 A l.length (bcells l)) :
    Calls Try.prog 67 #[.slice A l.length c] w fun e w' => e = .returned (.int .i64 (crcSum l)) ∧ Below w.heap.size w w' := by
  go_enter Try.func67, Try.ntmps67
  go_wp2_with fail
  refine (Add_any A c l w hbd hr).mono ?_
  rintro e w1 ⟨rfl, hB⟩
  go_wp2_with fail
  go_ret
  exact ⟨rfl, hB⟩
end Go.Proofs.Ytfonaceldfjneaa

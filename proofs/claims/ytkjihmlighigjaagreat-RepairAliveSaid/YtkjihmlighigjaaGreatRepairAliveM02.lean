/- Plain mathematics of layer 3: what is sealed and opened. Nothing of the program. -/
import Derived.Test.YtkjihmlighigjaaGreatRepairAliveM01
import Derived.Deep.QuietTactic
import Derived.BigQuiet
import Derived.Deep.RegionHeld3
import Derived.Deep.DrawnRows
import Derived.ProofKit
import Derived.OpenShut
import Derived.ShutString
import Derived.ChangeOld
import Derived.SliceStrings
import Derived.Lib.SmallJoins
import Derived.Deep.Slices
import Derived.Deep.Fields
import Derived.Test.YtkjihmlighigjaaGreatChecked
import Derived.ChangeSame
import Derived.WalkKit
import Derived.WalkSpells
import Derived.WalkLawsBesides
import Derived.Lib.Hide
import Derived.Deep.LoopGhost
import Derived.Deep.DeepCutAuto
import Derived.RegionTactic
import Derived.BigRegion
import Derived.OwnWalk
set_option linter.unusedSimpArgs false
set_option linter.unusedVariables false
namespace Go.Proofs.YtkjihmlighigjaaGreat
open Go.RowKit

def sealHead (k : Int) (l : Bs) : Bs := UInt8.ofNat k.toNat :: (leBytes 2 l.length ++ l)
def sealB (k : Int) (l : Bs) : Option Bs :=
  if 1 ≤ k ∧ l.length ≤ 505 then some (sealHead k l ++ leBytes 4 (crcSum (sealHead k l))) else none
theorem sealHead_length (k : Int) (l : Bs) : (sealHead k l).length = l.length + 3 := by simp [sealHead, leBytes_length]; omega
theorem sealB_some {k : Int} {l : Bs} (h1 : 1 ≤ k) (h2 : l.length ≤ 505) : sealB k l = some (sealHead k l ++ leBytes 4 (crcSum (sealHead k l))) := by
  rw [sealB, if_pos ⟨h1, h2⟩]
def sealR (k : Int) (l : Bs) : Bs × Int := match sealB k l with | some x => (x, 0) | none => ([], 2)
theorem sealR_ok {k : Int} {l : Bs} (h1 : 1 ≤ k) (h2 : l.length ≤ 505) : sealR k l = (sealHead k l ++ leBytes 4 (crcSum (sealHead k l)), 0) := by
  rw [sealR, sealB_some h1 h2]
theorem sealR_bad {k : Int} {l : Bs} (h : ¬ (1 ≤ k ∧ l.length ≤ 505)) : sealR k l = ([], 2) := by rw [sealR, sealB, if_neg h]

def openR (s : Bs) : Int × Bs × Int :=
  if 7 ≤ s.length ∧ s.length ≤ 512 ∧ 1 ≤ (s.getD 0 0).toNat ∧ (s.getD 0 0).toNat ≤ 127 ∧ sealB (s.getD 0 0).toNat ((s.drop 3).take (s.length - 7)) = some s
  then ((s.getD 0 0).toNat, (s.drop 3).take (s.length - 7), 0) else (0, [], 30)

theorem parts_of (s : Bs) (h : 7 ≤ s.length) : s = [s.getD 0 0] ++ (s.drop 1).take 2 ++ (s.drop 3).take (s.length - 7) ++ s.drop (s.length - 4) := by
  have h1 : s = s.take 1 ++ (s.drop 1) := (List.take_append_drop 1 s).symm
  have h2 : s.drop 1 = (s.drop 1).take 2 ++ s.drop 3 := by
    have := (List.take_append_drop 2 (s.drop 1)).symm
    rwa [List.drop_drop] at this
  have h3 : s.drop 3 = (s.drop 3).take (s.length - 7) ++ s.drop (s.length - 4) := by
    have := (List.take_append_drop (s.length - 7) (s.drop 3)).symm
    rwa [List.drop_drop, show 3 + (s.length - 7) = s.length - 4 by omega] at this
  have h4 : s.take 1 = [s.getD 0 0] := by
    match s, h with
    | a :: t, _ => simp
  rw [h4] at h1
  rw [List.append_assoc, List.append_assoc, ← h3, ← h2]
  exact h1
theorem head_of (s : Bs) (h : 7 ≤ s.length) : s.take (s.length - 4) = [s.getD 0 0] ++ (s.drop 1).take 2 ++ (s.drop 3).take (s.length - 7) := by
  have h1 := parts_of s h
  have h2 : ([s.getD 0 0] ++ (s.drop 1).take 2 ++ (s.drop 3).take (s.length - 7)).length = s.length - 4 := by simp; omega
  conv => lhs; arg 2; rw [h1]
  rw [← h2]; exact List.take_left

theorem openR_iff (s : Bs) (h : 7 ≤ s.length) :
    sealB (s.getD 0 0).toNat ((s.drop 3).take (s.length - 7)) = some s ↔
      1 ≤ (s.getD 0 0).toNat ∧ s.length ≤ 512 ∧ le ((s.drop 1).take 2) = s.length - 7 ∧ le (s.drop (s.length - 4)) = crcSum (s.take (s.length - 4)) := by
  have hll : ((s.drop 3).take (s.length - 7)).length = s.length - 7 := by simp; omega
  have h2l : ((s.drop 1).take 2).length = 2 := by simp; omega
  have h4l : (s.drop (s.length - 4)).length = 4 := by simp; omega
  have hof : UInt8.ofNat ((s.getD 0 0).toNat : Int).toNat = s.getD 0 0 := by simp
  constructor
  · intro he
    unfold sealB at he
    split at he
    · rename_i hc
      rw [hll] at hc
      injection he with he
      replace he := he.trans (parts_of s h)
      rw [sealHead, hof, hll, show s.getD 0 0 :: (leBytes 2 (s.length - 7) ++ (s.drop 3).take (s.length - 7)) = [s.getD 0 0] ++ leBytes 2 (s.length - 7) ++ (s.drop 3).take (s.length - 7) by simp] at he
      have e1 := List.append_inj he (by simp [leBytes_length]; omega)
      have e2 := List.append_inj e1.1 (by simp [leBytes_length]; omega)
      have e3 := List.append_inj e2.1 rfl
      refine ⟨by omega, by omega, ?_, ?_⟩
      · rw [← e3.2, le_leBytes]; exact Nat.mod_eq_of_lt (by omega)
      · rw [← e1.2, le_leBytes, head_of s h, ← e1.1]
        exact Nat.mod_eq_of_lt (by have := crcSum_lt ([s.getD 0 0] ++ leBytes 2 (s.length - 7) ++ (s.drop 3).take (s.length - 7)); omega)
    · cases he
  · rintro ⟨h1, h2, h3, h4⟩
    rw [sealB_some (by omega) (by omega)]
    have e1 : sealHead (s.getD 0 0).toNat ((s.drop 3).take (s.length - 7)) = s.take (s.length - 4) := by
      have e2 := leBytes_le ((s.drop 1).take 2)
      rw [h2l, h3] at e2
      rw [sealHead, hof, hll, head_of s h, e2]
      simp
    have e3 := leBytes_le (s.drop (s.length - 4))
    rw [h4l, h4] at e3
    rw [e1, e3, List.take_append_drop]

theorem openR_short {s : Bs} (h : s.length < 7) : openR s = (0, [], 30) := by rw [openR, if_neg (by omega)]
theorem openR_long {s : Bs} (h : 512 < s.length) : openR s = (0, [], 30) := by rw [openR, if_neg (by omega)]
theorem openR_len {s : Bs} (h : 7 ≤ s.length) (hn : le ((s.drop 1).take 2) ≠ s.length - 7) : openR s = (0, [], 30) := by
  rw [openR, if_neg]; rintro ⟨_, _, _, _, he⟩; exact hn ((openR_iff s h).1 he).2.2.1
theorem openR_zero {s : Bs} (hn : (s.getD 0 0).toNat = 0) : openR s = (0, [], 30) := by rw [openR, if_neg (by omega)]
theorem openR_big {s : Bs} (hn : 127 < (s.getD 0 0).toNat) : openR s = (0, [], 30) := by rw [openR, if_neg (by omega)]
theorem openR_sum {s : Bs} (h : 7 ≤ s.length) (hn : le (s.drop (s.length - 4)) ≠ crcSum (s.take (s.length - 4))) : openR s = (0, [], 30) := by
  rw [openR, if_neg]; rintro ⟨_, _, _, _, he⟩; exact hn ((openR_iff s h).1 he).2.2.2
theorem openR_ok {s : Bs} (h : 7 ≤ s.length) (h5 : s.length ≤ 512) (h0 : 1 ≤ (s.getD 0 0).toNat) (h1 : (s.getD 0 0).toNat ≤ 127) (hn : le ((s.drop 1).take 2) = s.length - 7)
    (hs : le (s.drop (s.length - 4)) = crcSum (s.take (s.length - 4))) : openR s = (((s.getD 0 0).toNat : Int), (s.drop 3).take (s.length - 7), 0) := by
  rw [openR, if_pos ⟨h, h5, h0, h1, (openR_iff s h).2 ⟨h0, h5, hn, hs⟩⟩]

def ofR (k : Int) (s : Bs) : Bs × Int := if (openR s).2.2 = 0 ∧ (openR s).1 = k then ((openR s).2.1, 0) else ([], 30)

theorem openR_cases (s : Bs) : openR s = (0, [], 30) ∨ ∃ k l, openR s = (k, l, 0) ∧ 1 ≤ k ∧ k ≤ 127 ∧ l.length ≤ 505 ∧ sealB k l = some s := by
  unfold openR
  split
  · rename_i h
    exact .inr ⟨_, _, rfl, by omega, by omega, by simp; omega, h.2.2.2.2⟩
  · exact .inl rfl
end Go.Proofs.YtkjihmlighigjaaGreat

namespace Go.Proofs.YtkjihmlighigjaaGreat
open Go.RowKit

abbrev Sect (w : World) (g : Nat) (v : Value) (e k : Int) : Prop := Blk w g 336 #[v, .int .i64 e, .int .i8 k]

def SPutPost (w : World) (g : Nat) (v0 : Value) (e0 k : Int) : Option Bs → World → Prop
  | some x, w' => ∃ v, Sect w' g v e0 k ∧ w'.ownsRow w.heap.size 5 1 v x.length (bcells x) ∧ w.grownBy w' (some g)
  | none, w' => Sect w' g v0 2 k ∧ w.grownBy w' (some g)

theorem grown_below_set {w w1 : World} {g : Nat} (hb : Below w.heap.size w w1) (p : Addr) (hp : p.block = g) (u : Value) : w.grownBy (w1.setCell p u) (some g) :=
  only_setCell (only_of_below hb (some g)) (.inl hp) u

set_option maxHeartbeats 400000 in
theorem sput_any (g : Nat) (Ab Al : Option Addr) (cb cl : Nat) (e0 k n : Int) (b : Bs) (l : List Int) (w : World) (hbd : b.length + 6 * l.length ≤ 1000000000)
    (hs : Sect w g (.slice Ab b.length cb) e0 k)
    (hb : Reads w w.heap.size 1 Ab b.length (bcells b)) (hl : Reads w w.heap.size 1 Al l.length (icells l)) :
    Calls Tryz.prog 278 #[.pointer (some ⟨g, 0, none⟩), .int .i64 n, .slice Al l.length cl] w fun e w' => e = .returned (.tuple #[]) ∧ SPutPost w g (.slice Ab b.length cb) e0 k (putS b n l) w' := by
  have c0 : w.cell? ⟨g, 0, none⟩ = some (.slice Ab b.length cb) := by rw [hs.cell 0]; rfl
  have HS := Lib.hid hs; clear hs
  have HB := Lib.hid hb; clear hb
  have HL := Lib.hid hl; clear hl
  have hput := Put_any Ab Al cb cl n b l w hbd HB.out HL.out
  have HP := Lib.hid hput; clear hput
  have hglt : g < w.heap.size := HS.out.lt
  go_enter Tryz.func278, Tryz.ntmps278
  go_wp2_with fail
  refine HP.out.mono ?_
  intro e w1 hpost
  generalize hr : putS b n l = r at *
  cases r with
  | none =>
    obtain ⟨rfl, hB⟩ := hpost
    have HR := Lib.hid hr; clear hr HP
    have hs1 : Sect w1 g (.slice Ab b.length cb) e0 k := HS.out.below hB hglt
    have c1 : w1.cell? ⟨g, 1, none⟩ = some (.int .i64 e0) := by rw [hs1.cell 1]; rfl
    have f1 := hs1.frozen 1
    have HS1 := Lib.hid hs1; clear hs1
    go_wp2
    refine bodyPost_ret (results_none rfl _ _ _) rfl ?_
    refine ⟨rfl, ?_⟩
    show SPutPost w g (.slice Ab b.length cb) e0 k (putS b n l) _
    rw [HR.out]
    exact ⟨HS1.out.set_ 1 _, grown_below_set hB _ rfl _⟩
  | some x =>
    obtain ⟨v, rfl, hown, hB⟩ := hpost
    have HR := Lib.hid hr; clear hr HP
    have hs1 : Sect w1 g (.slice Ab b.length cb) e0 k := HS.out.below hB hglt
    have c1 : w1.cell? ⟨g, 0, none⟩ = some (.slice Ab b.length cb) := by rw [hs1.cell 0]; rfl
    have f1 := hs1.frozen 0
    have HS1 := Lib.hid hs1; clear hs1
    obtain ⟨A1, c2, rfl, hc2, hm2, hr2⟩ := own_reads hown
    have HO := Lib.hid hown; clear hown hr2
    go_wp2
    go_end0
    refine ⟨rfl, ?_⟩
    show SPutPost w g (.slice Ab b.length cb) e0 k (putS b n l) _
    rw [HR.out]
    exact ⟨_, HS1.out.set_ 0 _, ownsRow_setCell_below HO.out (a := ⟨g, 0, none⟩) hglt _, grown_below_set hB _ rfl _⟩

theorem putS_one {b : Bs} {wd n : Nat} (h1 : 1 ≤ wd) (h2 : wd ≤ 6) (hn : n ≤ mostW wd) : putS b wd [(n : Int)] = some (b ++ leBytes wd n) := by
  rw [putS_ok h1 h2]
  · simp [putAll]
  · intro j hj
    obtain rfl : j = 0 := by simp at hj; exact hj
    refine decide_eq_true ⟨by omega, by omega, by simp, ?_⟩
    simp; omega

set_option maxHeartbeats 1000000 in
set_option maxRecDepth 100000 in
theorem sealed_ok (g : Nat) (A : Option Addr) (n c : Nat) (q : UInt8) (s : ByteArray) (w : World) (hq : 1 ≤ q.toNat) (hq2 : q.toNat ≤ 127) (hl : s.size ≤ 505)
    (hs : Sect w g (.slice A n c) 0 q.toNat) :
    Calls Tryz.prog 261 #[.pointer (some ⟨g, 0, none⟩), .string s] w fun e w' =>
      e = .returned (.tuple #[.string (mkS (sealHead q.toNat s.data.toList ++ leBytes 4 (crcSum (sealHead q.toNat s.data.toList)))), .int .i64 0]) ∧ w.grownBy w' (some g) := by
  obtain ⟨i0, hi0, hz0, hz1, hz2⟩ := info_parts u8_info
  have c0 : w.cell? ⟨g, 0, none⟩ = some (.slice A n c) := by rw [hs.cell 0]; rfl
  have c1 : w.cell? ⟨g, 1, none⟩ = some (.int .i64 0) := by rw [hs.cell 1]; rfl
  have c2 : w.cell? ⟨g, 2, none⟩ = some (.int .i8 q.toNat) := by rw [hs.cell 2]; rfl
  have f0 := hs.frozen 0
  have hglt : g < w.heap.size := hs.lt
  have HS := Lib.hid hs; clear hs
  have hkw : IntKind.u8.wrap (q.toNat : Int) = q.toNat := by rw [IntKind.wrap_u8']; omega
  have hb1 : decide ((q.toNat : Int) < 1) = false := by simp; omega
  have hb2 : decide ((505 : Int) < (s.size : Int)) = false := by simp; omega
  have hhd : [q] ++ leBytes 2 s.size ++ s.data.toList = sealHead q.toNat s.data.toList := by simp [sealHead]
  have hhl : (sealHead q.toNat s.data.toList).length ≤ 508 := by rw [sealHead_length]; simp; omega
  generalize sealHead q.toNat s.data.toList = hd at *
  have HH := Lib.hid hhd; clear hhd
  go_enter Tryz.func261, Tryz.ntmps261
  go_wp2_with fail
  have hW0 : w.grownBy (((w.setCell ⟨g, 0, none⟩ (Value.slice (some ⟨w.heap.size, 0, none⟩) 1 1)).alloc (Obj.cells #[Value.int IntKind.u8 q.toNat] 5)).alloc (Obj.cells #[Value.int IntKind.i64 s.size] 3)) (some g) :=
    only_alloc (only_alloc (only_setCell (World.grownBy.refl _ _) (.inl rfl) _) _) _
  refine (sput_any g (some ⟨w.heap.size, 0, none⟩) (some ⟨w.heap.size + 1, 0, none⟩) 1 1 0 q.toNat 2 [q] [(s.size : Int)] _ (by simp) ?h1 ?h2 ?h3).mono ?_
  case h1 => exact ((HS.out.set_ 0 _).alloc _).alloc _
  case h2 =>
    have h := (Blk.new (w.setCell ⟨g, 0, none⟩ (Value.slice (some ⟨w.heap.size, 0, none⟩) 1 1)) 5 #[Value.int IntKind.u8 q.toNat]).alloc (Obj.cells #[Value.int IntKind.i64 s.size] 3)
    rw [show (w.setCell ⟨g, 0, none⟩ (Value.slice (some ⟨w.heap.size, 0, none⟩) 1 1)).heap.size = w.heap.size by simp [World.setCell]] at h
    exact reads_blk h rfl rfl
  case h3 =>
    have h := Blk.new ((w.setCell ⟨g, 0, none⟩ (Value.slice (some ⟨w.heap.size, 0, none⟩) 1 1)).alloc (Obj.cells #[Value.int IntKind.u8 q.toNat] 5)) 3 #[Value.int IntKind.i64 s.size]
    rw [show ((w.setCell ⟨g, 0, none⟩ (Value.slice (some ⟨w.heap.size, 0, none⟩) 1 1)).alloc (Obj.cells #[Value.int IntKind.u8 q.toNat] 5)).heap.size = w.heap.size + 1 by simp [World.setCell]] at h
    exact reads_blk h rfl rfl
  rw [show putS [q] (2 : Int) [(s.size : Int)] = some ([q] ++ leBytes 2 s.size) from putS_one (wd := 2) (by omega) (by omega) (by simp [mostW]; omega)]
  rintro e w1 ⟨rfl, v1, hs1, hown1, hg1⟩
  have hB1 := only_trans hW0 hg1
  have hown1' := own_base hown1 (base' := w.heap.size) hW0.size
  have hne1 := own_blk_ne hown1' hs1 (by decide)
  obtain ⟨A1, n1, rfl⟩ : ∃ A1 n1, v1 = .slice A1 3 n1 := by
    obtain ⟨A1, n1, e1, _⟩ := own_reads hown1; exact ⟨A1, n1, by rw [e1]; simp [leBytes_length]⟩
  clear hown1 hg1 hW0 c0 c1 c2 f0
  have d0 : w1.cell? ⟨g, 0, none⟩ = some (.slice A1 3 n1) := by rw [hs1.cell 0]; rfl
  have d2 : w1.frozen? ⟨g, 0, none⟩ = false := hs1.frozen 0
  have HS1 := Lib.hid hs1; clear hs1
  have HN1 := Lib.hid hne1; clear hne1
  have HB1 := Lib.hid hB1; clear hB1
  have hsz : w.heap.size ≤ w1.heap.size := HB1.out.size
  have HO1 := Lib.hid hown1'; clear hown1'
  go_wp2_with (first
    | (at_builtin; go_loud (refine wpList_append_src _ rfl (.tmp 38) (.tmp 39) 175 9 rfl w.heap.size 5 i0 (.int .u8 0) 1 Tryz.underlying175 hi0 hz0 hz1 hz2 rfl (.slice A1 3 n1) _ _ (by rfl) HO1.out (by simp) (.string s) s.size (byteCells s) (by rfl) (Src.ofString _ Tryz.underlying9 s) (by simp [leBytes_length, maxLen]; omega) (by simp [leBytes_length]; omega) hsz ?_); intro v2 w2 hown2 hg2 hat2; (have ho2 : w2.ownsRow w.heap.size 5 1 v2 hd.length (bcells hd) := by (rw [← HH.out, bcells_append, List.length_append]; exact hown2)); obtain ⟨A2, n2, rfl, -, -, -⟩ := own_reads ho2; have hs2 := HS1.out.grown hg2 (Ne.symm HN1.out); (have d0' : w2.cell? ⟨g, 0, none⟩ = some (.slice A1 3 n1) := by (rw [hs2.cell 0]; rfl)); have d2' := hs2.frozen 0; have HS2 := Lib.hid hs2; have HO2 := Lib.hid ho2; have HG2 := Lib.hid hg2; clear hs2 hown2 ho2 hg2 hat2 d0 d2))
  have hs3 := HS2.out.set_ 0 (.slice A2 hd.length n2)
  have ho3 := ownsRow_setCell_below HO2.out (a := ⟨g, 0, none⟩) hglt (.slice A2 hd.length n2)
  have hG3 := only_setCell (only_own HB1.out HO1.out (Nat.le_refl _) HG2.out) (p := ⟨g, 0, none⟩) (.inl rfl) (.slice A2 hd.length n2)
  clear HS2 HO2 HG2 HB1 HO1 HN1 HS1 d0' d2' hsz HS
  generalize w2.setCell ⟨g, 0, none⟩ (.slice A2 hd.length n2) = W2 at *
  have d0 : W2.cell? ⟨g, 0, none⟩ = some (.slice A2 hd.length n2) := by rw [hs3.cell 0]; rfl
  have HS3 := Lib.hid hs3.drew; clear hs3
  have HO3 := Lib.hid ho3.drew; clear ho3
  have HG3 := Lib.hid (only_drew hG3); clear hG3
  have hcl := crcSum_lt hd
  have hps : putS hd (4 : Int) [((crcSum hd : Nat) : Int)] = some (hd ++ leBytes 4 (crcSum hd)) := putS_one (wd := 4) (by omega) (by omega) (by simp [mostW]; omega)
  have HPS := Lib.hid hps; clear hps
  go_region_with (first
    | (go_at_call 279; refine (Sum_any A2 n2 hd _ (by omega) (by exact Reads.of_own HO3.out)).mono ?_; rintro e w4 ⟨rfl, hB4⟩; have hG4 := only_below HG3.out hB4; (have hs4 : Sect w4 g (.slice A2 hd.length n2) 0 q.toNat := HS3.out.below hB4 HS3.out.lt); have ho4 := own_below HO3.out hB4; have HS4 := Lib.hid hs4; clear hs4; have HO4 := Lib.hid ho4; clear ho4; have HG4 := Lib.hid hG4; clear hG4 hB4)
    | (go_at_call 278; refine (sput_any g A2 (some ⟨w4.heap.size, 0, none⟩) n2 1 0 q.toNat 4 hd [((crcSum hd : Nat) : Int)] (w4.alloc (Obj.cells #[Value.int IntKind.i64 (crcSum hd)] 3)) (by simp; omega) (by exact HS4.out.alloc _) (by exact Reads.of_own (HO4.out.alloc _)) (by exact reads_blk (Blk.new w4 3 #[Value.int IntKind.i64 (crcSum hd)]) rfl rfl)).mono ?_; rw [HPS.out]; rintro e w5 ⟨rfl, v5, hs5, hown5, hg5⟩))
  have hG5 := only_trans (only_alloc HG4.out _) hg5
  obtain ⟨A5, n5, rfl, -, -, hr5⟩ := own_reads hown5
  have d0 : w5.cell? ⟨g, 0, none⟩ = some (.slice A5 (hd ++ leBytes 4 (crcSum hd)).length n5) := by rw [hs5.cell 0]; rfl
  have d1 : w5.cell? ⟨g, 1, none⟩ = some (.int .i64 0) := by rw [hs5.cell 1]; rfl
  have hconv := fun kk => run_string_of (P := Tryz.prog) (w5.drewN kk) 175 9 5 Tryz.underlying175 Tryz.underlying5 Tryz.underlying9 w5.heap.size A5 n5 _ (hr5.drewN kk)
  have HG5 := Lib.hid hG5; clear hG5 hg5 hown5 hs5 HS4 HO4 HG4 hr5
  generalize hout : hd ++ leBytes 4 (crcSum hd) = out at *
  have HOUT := Lib.hid hout; clear hout
  go_wp2_with fail
  go_quiet (fail)
  go_wp2
  go_ret2
  exact ⟨by rw [HOUT.out]; rfl, only_drewN HG5.out _⟩

theorem sealed_bad (g : Nat) (v0 : Value) (e0 k : Int) (s : ByteArray) (w : World) (h : ¬ (1 ≤ k ∧ s.size ≤ 505)) (hs : Sect w g v0 e0 k) :
    Calls Tryz.prog 261 #[.pointer (some ⟨g, 0, none⟩), .string s] w fun e w' =>
      e = .returned (.tuple #[.string (mkS []), .int .i64 2]) ∧ w = w' := by
  have c2 : w.cell? ⟨g, 2, none⟩ = some (.int .i8 k) := by rw [hs.cell 2]; rfl
  clear hs
  by_cases hk : k < 1
  · go_enter Tryz.func261, Tryz.ntmps261
    go_wp2
    go_ret2
    exact ⟨rfl, rfl⟩
  · have hl : (505 : Int) < s.size := by omega
    go_enter Tryz.func261, Tryz.ntmps261
    go_wp2
    go_ret2
    exact ⟨rfl, rfl⟩

theorem sealed_any (g : Nat) (A : Option Addr) (n c : Nat) (k : Int) (s : ByteArray) (w : World) (hk2 : k ≤ 127) (hs : Sect w g (.slice A n c) 0 k) :
    Calls Tryz.prog 261 #[.pointer (some ⟨g, 0, none⟩), .string s] w fun e w' =>
      e = .returned (.tuple #[.string (mkS (sealR k s.data.toList).1), .int .i64 (sealR k s.data.toList).2]) ∧ w.grownBy w' (some g) := by
  by_cases h : 1 ≤ k ∧ s.size ≤ 505
  · obtain ⟨q, rfl⟩ : ∃ q : UInt8, k = (q.toNat : Int) := ⟨UInt8.ofNat k.toNat, by simp; omega⟩
    rw [sealR_ok h.1 (by simpa using h.2)]
    exact sealed_ok g A n c q s w (by omega) (by omega) h.2 hs
  · rw [sealR_bad (by simpa using h)]
    exact (sealed_bad g _ 0 k s w h hs).mono fun e w' ⟨h1, h2⟩ => ⟨h1, h2 ▸ World.grownBy.refl _ _⟩

theorem Seal_any (k : Int) (s : ByteArray) (w : World) (hk2 : k ≤ 127) :
    Calls Tryz.prog 238 #[.int .i8 k, .string s] w fun e w' =>
      e = .returned (.tuple #[.string (mkS (sealR k s.data.toList).1), .int .i64 (sealR k s.data.toList).2]) ∧ Below w.heap.size w w' := by
  go_enter Tryz.func238, Tryz.ntmps238
  go_wp2_with fail
  refine (sealed_any w.heap.size none 0 0 k s _ hk2 (Blk.new w _ _)).mono ?_
  rintro e w1 ⟨rfl, hg⟩
  go_wp2_with fail
  go_ret2
  exact ⟨rfl, below_only ((Below.refl _ _).alloc (Nat.le_refl _) _) hg (Nat.le_refl _)⟩
end Go.Proofs.YtkjihmlighigjaaGreat

namespace Go.Proofs.YtkjihmlighigjaaGreat
open Go.RowKit

def OpenPost (w : World) (s : Bs) (e : Ending) (w' : World) : Prop :=
  e = .returned (.tuple #[.int .i8 (openR s).1, .string (mkS (openR s).2.1), .int .i64 (openR s).2.2]) ∧ Below w.heap.size w w'

theorem getD_byte (s : ByteArray) (h : 0 < s.size) : s.data.toList.getD 0 0 = s[0] := by
  rw [List.getD_eq_getElem?_getD, List.getElem?_eq_getElem (by simpa using h), Option.getD_some, bytes_getElem s 0 h]

theorem open_fail (s : ByteArray) (w : World) (hr : openR s.data.toList = (0, [], 30)) (e : Ending) (w' : World)
    (h : e = .returned (.tuple #[.int .i8 0, .string (mkS []), .int .i64 30]) ∧ Below w.heap.size w w') : OpenPost w s.data.toList e w' := by
  unfold OpenPost; rw [hr]; exact h

set_option maxHeartbeats 1000000 in
set_option maxRecDepth 100000 in
theorem open_sum (s : ByteArray) (n : Nat) (w : World) (h5 : n ≤ 505) (hz1 : 1 ≤ (s.data.toList.getD 0 0).toNat) (hz2 : (s.data.toList.getD 0 0).toNat ≤ 127) (h0 : 0 < s.size)
    (hl : s.size = n + 7) (hn : n = le ((s.data.toList.drop 1).take 2)) :
    Calls Tryz.prog 247 #[.string s] w fun e w' => OpenPost w s.data.toList e w' := by
  have hsm : s.size ≤ maxLen := by unfold maxLen; omega
  have hgd := getD_byte s h0
  have hll : s.data.toList.length = n + 7 := by rw [bytes_length]; exact hl
  have hg : getS s.data.toList 1 2 = ((n : Int), 0) := by
    have := getS_ok (l := s.data.toList) (a := 1) (w := 2) (by omega) (by omega) (by rw [← hn]; omega)
    rw [← hn] at this; exact this
  have hget := get_any s 1 2 w hsm
  rw [hg] at hget
  have hsl : (s.data.toList.drop (3 + n)).take 4 = s.data.toList.drop (s.data.toList.length - 4) := by
    rw [show s.data.toList.length - 4 = 3 + n by omega]; exact List.take_of_length_le (by rw [List.length_drop]; omega)
  have htk : (s.extract 0 (3 + n)).data.toList = s.data.toList.take (s.data.toList.length - 4) := by
    rw [Lib.extract_data, List.drop_zero, Nat.sub_zero, show s.data.toList.length - 4 = 3 + n by omega]
  have hex : (s.extract 3 (3 + n)).data.toList = (s.data.toList.drop 3).take (s.data.toList.length - 7) := by
    rw [Lib.extract_data, show s.data.toList.length - 7 = n by omega, Nat.add_sub_cancel_left]
  have hmk : Value.string (mkS ((s.data.toList.drop 3).take (s.data.toList.length - 7))) = .string (s.extract 3 (3 + n)) := by rw [← hex, mkS_self]
  have hsmlt : le (s.data.toList.drop (s.data.toList.length - 4)) < 4294967296 := by rw [← hsl]; exact le_take_lt _ _ 4
  have hg2 : getS s.data.toList (3 + (n : Int)) 4 = (((le (s.data.toList.drop (s.data.toList.length - 4)) : Nat) : Int), 0) := by
    have := getS_ok (l := s.data.toList) (a := 3 + n) (w := 4) (by omega) (by omega) (by rw [hsl]; omega)
    rw [hsl] at this
    rw [← this]; congr 1
  have hget2 := get_any s (3 + (n : Int)) 4 w hsm
  rw [hg2] at hget2
  obtain ⟨c, w1, hrun, -, -, hbr, hB, -⟩ := run_bytes_new (P := Tryz.prog) w 9 175 5 (s.extract 0 (3 + n)) Tryz.underlying9 Tryz.underlying175 Tryz.underlying5 (by rw [← bytes_length, htk, List.length_take]; omega)
  have hxs : (s.extract 0 (3 + n)).size = (s.data.toList.take (s.data.toList.length - 4)).length := by rw [← htk, bytes_length]
  rw [hxs] at hrun hbr
  rw [htk] at hbr
  have hsum := Sum_any (some ⟨w.heap.size, 0, none⟩) c (s.data.toList.take (s.data.toList.length - 4)) w1 (by rw [List.length_take]; omega) hbr.reads
  have HRok := @openR_ok s.data.toList (by omega) (by omega) hz1 hz2 (by omega)
  have HRsum := @openR_sum s.data.toList (by omega)
  have hcrl := crcSum_lt (s.data.toList.take (s.data.toList.length - 4))
  have HG := Lib.hid hget; clear hget hg
  have HG2 := Lib.hid hget2; clear hget2 hg2
  have HSUM := Lib.hid hsum; clear hsum
  have HB := Lib.hid hB; clear hB
  have HMK := Lib.hid hmk; clear hmk
  have HOK := Lib.hid HRok; clear HRok
  have HBAD := Lib.hid HRsum; clear HRsum
  have HGD := Lib.hid hgd; clear hgd
  clear hbr hex htk hsl hll hxs hn
  have hlb : ((s.size : Int) != 3 + (n : Int) + 4) = false := by simp; omega
  have hx0 : (0 : Int) < (s.size : Int) := by omega
  have hl1 : s.size ≤ n + 7 := by omega
  have hl2 : n + 7 ≤ s.size := by omega
  clear hl
  have hz1' : 1 ≤ s[0].toNat := by rw [← HGD.out]; exact hz1
  have hz2' : s[0].toNat ≤ 127 := by rw [← HGD.out]; exact hz2
  clear hz1 hz2
  have hzb : ((s[0].toNat : Int) == 0) = false := by simp; omega
  have hzb2 : ¬ (127 : Int) < (s[0].toNat : Int) := by omega
  generalize le (s.data.toList.drop (s.data.toList.length - 4)) = sm at *
  generalize crcSum (s.data.toList.take (s.data.toList.length - 4)) = cr at *
  generalize (s.data.toList.take (s.data.toList.length - 4)).length = m at *
  by_cases heq : sm = cr
  · subst heq
    have hsb : ((sm : Int) != (sm : Int)) = false := by simp
    have HR := Lib.hid (HOK.out rfl)
    clear HOK HBAD
    go_enter Tryz.func247, Tryz.ntmps247
    go_wp2_with fail
    refine HG.out.mono ?_
    rintro e w' ⟨rfl, rfl⟩
    go_wp2_with fail
    refine HG2.out.mono ?_
    rintro e w' ⟨rfl, rfl⟩
    go_wp2_with fail
    refine HSUM.out.mono ?_
    rintro e w2 ⟨rfl, hB2⟩
    have HB2 := Lib.hid (HB.out.trans (hB2.mono HB.out.size)); clear hB2
    clear hrun
    go_wp2_with fail
    go_quiet (fail)
    go_wp2
    go_ret3
    show OpenPost w s.data.toList _ _
    unfold OpenPost
    rw [HR.out]
    refine ⟨?_, Go.Proofs.YtkjihmlighigjaaGreat.below_drewN HB2.out _⟩
    rw [HMK.out, HGD.out]
    rfl
  · have hsb : ((sm : Int) != (cr : Int)) = true := by simp; omega
    have hr := HBAD.out heq
    have HR := Lib.hid hr; clear hr
    go_enter Tryz.func247, Tryz.ntmps247
    go_wp2_with fail
    refine HG.out.mono ?_
    rintro e w' ⟨rfl, rfl⟩
    go_wp2_with fail
    refine HG2.out.mono ?_
    rintro e w' ⟨rfl, rfl⟩
    go_wp2_with fail
    refine HSUM.out.mono ?_
    rintro e w2 ⟨rfl, hB2⟩
    have HB2 := Lib.hid (HB.out.trans (hB2.mono HB.out.size)); clear hB2
    clear hrun
    go_wp2_with fail
    go_ret3
    exact open_fail s _ HR.out _ _ ⟨rfl, HB2.out⟩

set_option maxHeartbeats 1000000 in
theorem Open_any (s : ByteArray) (w : World) (hs : s.size ≤ 1000000000) :
    Calls Tryz.prog 247 #[.string s] w fun e w' => OpenPost w s.data.toList e w' := by
  have hsm : s.size ≤ maxLen := by unfold maxLen; omega
  by_cases h3 : s.size < 3
  · have hr := openR_short (s := s.data.toList) (by simp; omega)
    have hg : getS s.data.toList 1 2 = (0, 10) := getS_out ⟨by omega, by omega⟩ (by simp; omega)
    have HR := Lib.hid hr; clear hr
    have hget := get_any s 1 2 w hsm
    rw [hg] at hget
    have HG := Lib.hid hget; clear hget hg
    go_enter Tryz.func247, Tryz.ntmps247
    go_wp2_with fail
    refine HG.out.mono ?_
    rintro e w' ⟨rfl, rfl⟩
    go_wp2_with fail
    go_ret3
    exact open_fail s _ HR.out _ _ ⟨rfl, Below.refl _ _⟩
  · have hge : 3 ≤ s.size := by omega
    obtain ⟨n, hn⟩ : ∃ n, n = le ((s.data.toList.drop 1).take 2) := ⟨_, rfl⟩
    have hnl : n < 65536 := by rw [hn]; exact le_take_lt _ 1 2
    have hg : getS s.data.toList 1 2 = ((n : Int), 0) := by
      have := getS_ok (l := s.data.toList) (a := 1) (w := 2) (by omega) (by simp; omega) (by rw [← hn]; omega)
      rw [← hn] at this; exact this
    have hget := get_any s 1 2 w hsm
    rw [hg] at hget
    have HG := Lib.hid hget; clear hget hg
    have HN := Lib.hid hn; clear hn
    by_cases hl : s.size = n + 7
    · have hlb : ((s.size : Int) != 3 + (n : Int) + 4) = false := by simp; omega
      have hx0 : (0 : Int) < (s.size : Int) := by omega
      have h0 : 0 < s.size := by omega
      have hgd := getD_byte s h0
      have HGD := Lib.hid hgd; clear hgd
      have HL := Lib.hid hl
      have hl1 : s.size ≤ n + 7 := by omega
      have hl2 : n + 7 ≤ s.size := by omega
      clear hl
      by_cases h5 : n ≤ 505
      · by_cases hz : s[0].toNat = 0
        · have hr := openR_zero (s := s.data.toList) (by rw [HGD.out]; exact hz)
          have HR := Lib.hid hr; clear hr
          have hzb : ((s[0].toNat : Int) == 0) = true := by simp [hz]
          have HZ := Lib.hid hz; clear hz
          go_enter Tryz.func247, Tryz.ntmps247
          go_wp2_with fail
          refine HG.out.mono ?_
          rintro e w' ⟨rfl, rfl⟩
          go_wp2_with fail
          go_ret3
          exact open_fail s _ HR.out _ _ ⟨rfl, Below.refl _ _⟩
        · by_cases hz2 : 127 < s[0].toNat
          · have hr := openR_big (s := s.data.toList) (by rw [HGD.out]; exact hz2)
            have HR := Lib.hid hr; clear hr
            have hzb : ((s[0].toNat : Int) == 0) = false := by simp; omega
            have hzb2 : (127 : Int) < (s[0].toNat : Int) := by omega
            go_enter Tryz.func247, Tryz.ntmps247
            go_wp2_with fail
            refine HG.out.mono ?_
            rintro e w' ⟨rfl, rfl⟩
            go_wp2_with fail
            go_ret3
            exact open_fail s _ HR.out _ _ ⟨rfl, Below.refl _ _⟩
          · exact open_sum s n w h5 (by rw [HGD.out]; omega) (by rw [HGD.out]; omega) h0 HL.out HN.out
      · have hr := openR_long (s := s.data.toList) (by simp; omega)
        have HR := Lib.hid hr; clear hr
        go_enter Tryz.func247, Tryz.ntmps247
        go_wp2_with fail
        refine HG.out.mono ?_
        rintro e w' ⟨rfl, rfl⟩
        go_wp2_with fail
        go_ret3
        exact open_fail s _ HR.out _ _ ⟨rfl, Below.refl _ _⟩
    · have hr : openR s.data.toList = (0, [], 30) := by
        rcases Nat.lt_or_ge s.size 7 with h | h
        · exact openR_short (by simpa using h)
        · exact openR_len (by simpa using h) (by rw [← HN.out]; simp; omega)
      have HR := Lib.hid hr; clear hr
      have hlb : ((s.size : Int) != 3 + (n : Int) + 4) = true := by simp; omega
      have HL := Lib.hid hl; clear hl
      go_enter Tryz.func247, Tryz.ntmps247
      go_wp2_with fail
      refine HG.out.mono ?_
      rintro e w' ⟨rfl, rfl⟩
      go_wp2_with fail
      go_ret3
      exact open_fail s _ HR.out _ _ ⟨rfl, Below.refl _ _⟩

set_option maxHeartbeats 400000 in
theorem Of_any (k : Int) (s : ByteArray) (w : World) (hs : s.size ≤ 1000000000) :
    Calls Tryz.prog 198 #[.int .i8 k, .string s] w fun e w' => e = .returned (.tuple #[.string (mkS (ofR k s.data.toList).1), .int .i64 (ofR k s.data.toList).2]) ∧ Below w.heap.size w w' := by
  have ho := Open_any s w hs
  unfold OpenPost at ho
  have hof : ofR k s.data.toList = if (openR s.data.toList).2.2 = 0 ∧ (openR s.data.toList).1 = k then ((openR s.data.toList).2.1, 0) else ([], 30) := rfl
  rcases openR_cases s.data.toList with h | ⟨k', l, h, _, _, _, _⟩
  · rw [h] at ho hof
    rw [hof]
    have HO := Lib.hid ho; clear ho hof h
    go_enter Tryz.func198, Tryz.ntmps198
    go_wp2_with fail
    refine HO.out.mono ?_
    rintro e w1 ⟨rfl, hB⟩
    go_wp2_with fail
    go_ret2
    exact ⟨rfl, hB⟩
  · rw [h] at ho hof
    by_cases hk : k' = k
    · rw [if_pos ⟨rfl, hk⟩] at hof
      rw [hof]
      have HO := Lib.hid ho; clear ho hof h
      have hkb : (k' != k) = false := by simp [hk]
      clear hk
      go_enter Tryz.func198, Tryz.ntmps198
      go_wp2_with fail
      refine HO.out.mono ?_
      rintro e w1 ⟨rfl, hB⟩
      go_wp2_with fail
      go_ret2
      exact ⟨rfl, hB⟩
    · rw [if_neg (fun h' => hk h'.2)] at hof
      rw [hof]
      have HO := Lib.hid ho; clear ho hof h
      have hkb : (k' != k) = true := by simp [hk]
      clear hk
      go_enter Tryz.func198, Tryz.ntmps198
      go_wp2_with fail
      refine HO.out.mono ?_
      rintro e w1 ⟨rfl, hB⟩
      go_wp2_with fail
      go_ret2
      exact ⟨rfl, hB⟩

end Go.Proofs.YtkjihmlighigjaaGreat

namespace Go.Proofs.YtkjihmlighigjaaGreat
open Go.RowKit

theorem str_ne {a b : ByteArray} (h : a ≠ b) : (!a.toList == b.toList) = true := by
  have : a.toList ≠ b.toList := by
    rw [Lib.toList_data, Lib.toList_data]
    intro e
    exact h (by rw [← mkS_self a, ← mkS_self b, e])
  simp [this]
theorem leBytes4 (x : Nat) (h : x < 4294967296) : bcells (leBytes 4 x) = [.int .u8 ((x : Int) % 256), .int .u8 ((x : Int) / 256 % 256), .int .u8 ((x : Int) / 65536 % 256), .int .u8 ((x : Int) / 16777216)] := by
  have e : (x : Int) / 16777216 = (x : Int) / 16777216 % 256 := by omega
  rw [e]
  simp only [leBytes, bcells, List.map_cons, List.map_nil, Nat.div_div_eq_div_mul]
  simp

set_option maxHeartbeats 1000000 in
set_option maxRecDepth 100000 in
theorem rSeal_ok (q : UInt8) (s : ByteArray) (w : World) (hq : 1 ≤ q.toNat) (hq2 : q.toNat ≤ 127) (hl : s.size ≤ 505) :
    Calls Tryz.prog 114 #[.int .i8 q.toNat, .string s] w fun e w' =>
      e = .returned (.tuple #[.string (mkS (sealHead q.toNat s.data.toList ++ leBytes 4 (crcSum (sealHead q.toNat s.data.toList)))), .int .i64 0]) ∧ Below w.heap.size w w' := by
  obtain ⟨i0, hi0, hz0, hz1, hz2⟩ := info_parts u8_info
  have hkw : IntKind.u8.wrap (q.toNat : Int) = q.toNat := by rw [IntKind.wrap_u8']; omega
  have hb1 : decide ((q.toNat : Int) < 1) = false := by simp; omega
  have hb2 : decide ((505 : Int) < (s.size : Int)) = false := by simp; omega
  have hhd : [q] ++ leBytes 2 s.size ++ s.data.toList = sealHead q.toNat s.data.toList := by simp [sealHead]
  have hhl : (sealHead q.toNat s.data.toList).length ≤ 508 := by rw [sealHead_length]; simp; omega
  generalize sealHead q.toNat s.data.toList = hd at *
  have HH := Lib.hid hhd; clear hhd
  go_enter Tryz.func114, Tryz.ntmps114
  go_wp2_with fail
  refine (rPut_any (some ⟨w.heap.size, 0, none⟩) (some ⟨w.heap.size + 1, 0, none⟩) 1 1 2 [q] [(s.size : Int)] _ (by simp) ?h1 ?h2).mono ?_
  case h1 => exact reads_blk ((Blk.new w 5 #[Value.int IntKind.u8 q.toNat]).alloc (Obj.cells #[Value.int IntKind.i64 s.size] 3)) rfl rfl
  case h2 =>
    have h := Blk.new (w.alloc (Obj.cells #[Value.int IntKind.u8 q.toNat] 5)) 3 #[Value.int IntKind.i64 s.size]
    rw [show (w.alloc (Obj.cells #[Value.int IntKind.u8 q.toNat] 5)).heap.size = w.heap.size + 1 by simp] at h
    exact reads_blk h rfl rfl
  rw [show putS [q] (2 : Int) [(s.size : Int)] = some ([q] ++ leBytes 2 s.size) from putS_one (wd := 2) (by omega) (by omega) (by simp [mostW]; omega)]
  rintro e w1 ⟨v1, rfl, hown1, hB1⟩
  have hB : Below w.heap.size w w1 := (((Below.refl _ _).alloc (Nat.le_refl _) _).alloc (by simp) _).trans (hB1.mono (by simp; omega))
  have ho1 := own_base hown1 (base' := w.heap.size) (by simp; omega)
  obtain ⟨A1, n1, rfl⟩ : ∃ A1 n1, v1 = .slice A1 3 n1 := by
    obtain ⟨A1, n1, e1, _⟩ := own_reads ho1; exact ⟨A1, n1, by rw [e1]; simp [leBytes_length]⟩
  have hsz := hB.size
  have HB := Lib.hid hB; clear hB hB1 hown1
  have HO1 := Lib.hid ho1; clear ho1
  go_wp2_with (first
    | (at_builtin; refine wpList_append_src _ rfl (.tmp 26) (.tmp 27) 175 9 rfl w.heap.size 5 i0 (.int .u8 0) 1 Tryz.underlying175 hi0 hz0 hz1 hz2 rfl (.slice A1 3 n1) _ _ (by rfl) HO1.out (by simp) (.string s) s.size (byteCells s) (by rfl) (Src.ofString _ Tryz.underlying9 s) (by simp [leBytes_length, maxLen]; omega) (by simp [leBytes_length]; omega) hsz ?_; intro v2 w2 hown2 hg2 hat2; (have ho2 : w2.ownsRow w.heap.size 5 1 v2 hd.length (bcells hd) := by (rw [← HH.out, bcells_append, List.length_append]; exact hown2)); obtain ⟨A2, n2, rfl, -, -, hr2⟩ := own_reads ho2; have HB2 := Lib.hid (below_own HB.out HO1.out hg2 hsz); have HO2 := Lib.hid ho2; have HR2 := Lib.hid hr2; clear hown2 ho2 hg2 hat2 hr2))
  refine (rSum_any A2 n2 hd w2 (by omega) HR2.out).mono ?_
  rintro e w3 ⟨rfl, rfl⟩
  have hcl := crcSum_lt hd
  have hl4 := leBytes4 (crcSum hd) hcl
  have HL4 := Lib.hid hl4; clear hl4
  generalize hcr : crcSum hd = cr at *
  have HCR := Lib.hid hcr; clear hcr
  have hsz2 := HB2.out.size
  go_wp2_with (first
    | (at_builtin; go_loud (refine wpList_append_any _ rfl (.tmp 31) (.tmp 43) 175 rfl w.heap.size 5 i0 (.int .u8 0) 1 1 Tryz.underlying175 hi0 hz0 hz1 hz2 rfl (by decide) (.slice A2 hd.length n2) hd.length (bcells hd) (by rfl) (HO2.out.alloc _) _ (some ⟨w2.heap.size, 0, none⟩) 4 4 (bcells (leBytes 4 cr)) (by rfl) (by rw [HL4.out]; exact reads_blk (Blk.new _ _ _) rfl rfl) (bcells_one _) (by unfold maxLen; omega) (by omega) (by simp; omega) ?_); intro v4 w4 hown4 hg4 hat4; (have hB4 := below_own (HB2.out.alloc hsz2 _) (HO2.out.alloc _) hg4 (by simp; omega)); (rw [← bcells_append] at hown4); obtain ⟨A4, n4, rfl, -, -, hr4⟩ := own_reads hown4; (have hr4' : Reads w4 w4.heap.size 1 A4 (hd ++ leBytes 4 cr).length (bcells (hd ++ leBytes 4 cr)) := by (rw [List.length_append, leBytes_length]; exact hr4)); (have hconv := run_string_of (P := Tryz.prog) w4 175 9 5 Tryz.underlying175 Tryz.underlying5 Tryz.underlying9 w4.heap.size A4 n4 _ hr4'); rw [List.length_append, leBytes_length] at hconv; have HB4 := Lib.hid hB4; clear hB4 hg4 hat4 hown4 hr4 hr4'))
  go_ret2
  exact ⟨by rw [HCR.out]; rfl, HB4.out⟩

theorem rSeal_any (k : Int) (s : ByteArray) (w : World) (hk2 : k ≤ 127) (hs : s.size ≤ 9223372036854775807) :
    Calls Tryz.prog 114 #[.int .i8 k, .string s] w fun e w' =>
      e = .returned (.tuple #[.string (mkS (sealR k s.data.toList).1), .int .i64 (sealR k s.data.toList).2]) ∧ Below w.heap.size w w' := by
  by_cases h : 1 ≤ k ∧ s.size ≤ 505
  · obtain ⟨q, rfl⟩ : ∃ q : UInt8, k = (q.toNat : Int) := ⟨UInt8.ofNat k.toNat, by simp; omega⟩
    rw [sealR_ok h.1 (by simpa using h.2)]
    exact rSeal_ok q s w (by omega) (by omega) h.2
  · rw [sealR_bad (by simpa using h)]
    by_cases hk : k < 1
    · go_enter Tryz.func114, Tryz.ntmps114
      go_wp2
      go_ret2
      exact ⟨rfl, Below.refl _ _⟩
    · have hl : (505 : Int) < s.size := by omega
      go_enter Tryz.func114, Tryz.ntmps114
      go_wp2
      go_ret2
      exact ⟨rfl, Below.refl _ _⟩

set_option maxHeartbeats 1000000 in
set_option maxRecDepth 100000 in
theorem rOpen_any (s : ByteArray) (w : World) (hs : s.size ≤ 1000000000) :
    Calls Tryz.prog 206 #[.string s] w fun e w' => OpenPost w s.data.toList e w' := by
  by_cases h7 : s.size < 7
  · have hr := openR_short (s := s.data.toList) (by simpa using h7)
    have HR := Lib.hid hr; clear hr
    have h7' : (s.size : Int) < 7 := by omega
    go_enter Tryz.func206, Tryz.ntmps206
    go_wp2_with fail
    go_ret3
    exact open_fail s _ HR.out _ _ ⟨rfl, Below.refl _ _⟩
  · by_cases h5 : 512 < s.size
    · have hr := openR_long (s := s.data.toList) (by simpa using h5)
      have HR := Lib.hid hr; clear hr
      have h5' : (512 : Int) < (s.size : Int) := by omega
      go_enter Tryz.func206, Tryz.ntmps206
      go_wp2_with fail
      go_ret3
      exact open_fail s _ HR.out _ _ ⟨rfl, Below.refl _ _⟩
    · have h0 : 0 < s.size := by omega
      have hx0 : (0 : Int) < (s.size : Int) := by omega
      have hgd := getD_byte s h0
      have HGD := Lib.hid hgd; clear hgd
      by_cases hz : s[0].toNat = 0
      · have hr := openR_zero (s := s.data.toList) (by rw [HGD.out]; exact hz)
        have HR := Lib.hid hr; clear hr
        have hzb : (s[0].toNat : Int) < 1 := by omega
        clear hz
        go_enter Tryz.func206, Tryz.ntmps206
        go_wp2_with fail
        go_ret3
        exact open_fail s _ HR.out _ _ ⟨rfl, Below.refl _ _⟩
      · have hzb : ¬ (s[0].toNat : Int) < 1 := by omega
        clear hz
        by_cases hz2 : 127 < s[0].toNat
        · have hr := openR_big (s := s.data.toList) (by rw [HGD.out]; exact hz2)
          have HR := Lib.hid hr; clear hr
          have hzb2 : (127 : Int) < (s[0].toNat : Int) := by omega
          go_enter Tryz.func206, Tryz.ntmps206
          go_wp2_with fail
          go_ret3
          exact open_fail s _ HR.out _ _ ⟨rfl, Below.refl _ _⟩
        · have hzb2 : ¬ (127 : Int) < (s[0].toNat : Int) := by omega
          have hwr : IntKind.i8.wrap (s[0].toNat : Int) = (s[0].toNat : Int) := IntWalk.i8_in _ (by omega)
          have hex : (s.extract 3 (s.size - 4)).data.toList = (s.data.toList.drop 3).take (s.data.toList.length - 7) := by
            rw [Lib.extract_data]; congr 1
          have hxl : (s.extract 3 (s.size - 4)).size ≤ 505 := by rw [← bytes_length, hex, List.length_take]; simp; omega
          have hse := fun w => rSeal_any (s[0].toNat : Int) (s.extract 3 (s.size - 4)) w (by omega) (by omega)
          have hoR : openR s.data.toList = if sealB s[0].toNat ((s.data.toList.drop 3).take (s.data.toList.length - 7)) = some s.data.toList then ((s[0].toNat : Int), (s.data.toList.drop 3).take (s.data.toList.length - 7), 0) else (0, [], 30) := by
            have h := HGD.out
            unfold openR
            rw [h]
            by_cases hc : sealB s[0].toNat ((s.data.toList.drop 3).take (s.data.toList.length - 7)) = some s.data.toList
            · rw [if_pos hc, if_pos ⟨by simp; omega, by simp; omega, by omega, by omega, hc⟩]
            · rw [if_neg hc, if_neg (fun h => hc h.2.2.2.2)]
          have hmk : mkS ((s.data.toList.drop 3).take (s.data.toList.length - 7)) = s.extract 3 (s.size - 4) := by rw [← hex, mkS_self]
          have hsb : ∃ x, sealB s[0].toNat ((s.data.toList.drop 3).take (s.data.toList.length - 7)) = some x := ⟨_, sealB_some (by omega) (by rw [← hex, bytes_length]; exact hxl)⟩
          obtain ⟨x, hx⟩ := hsb
          rw [hex] at hse
          rw [sealR, hx] at hse
          dsimp only at hse
          rw [hx] at hoR
          generalize (s.data.toList.drop 3).take (s.data.toList.length - 7) = ld at *
          have b7 : ¬ (s.size : Int) < 7 := by omega
          have b5 : ¬ (512 : Int) < (s.size : Int) := by omega
          have HSE := Lib.hid hse; clear hse hx hex
          have HMK := Lib.hid hmk; clear hmk
          by_cases hq : mkS x = s
          · rw [hq] at HSE
            rw [show x = s.data.toList by rw [← hq, mkS_toList], if_pos rfl] at hoR
            have HO := Lib.hid hoR; clear hoR hq
            go_enter Tryz.func206, Tryz.ntmps206
            go_wp2_with fail
            go_quiet (fail)
            go_wp2_with fail
            refine (HSE.out _).mono ?_
            rintro e w1 ⟨rfl, hB1⟩
            have HB1 := Lib.hid ((below_drewN (Below.refl w.heap.size w) _).trans hB1); clear hB1
            go_wp2_with fail
            go_ret3
            show OpenPost w s.data.toList _ _
            unfold OpenPost
            rw [HO.out]
            exact ⟨by rw [HMK.out]; rfl, HB1.out⟩
          · rw [if_neg (by intro h; apply hq; injection h with h; rw [h, mkS_self])] at hoR
            have HO := Lib.hid hoR; clear hoR
            have hqb := str_ne hq
            clear hq
            generalize mkS x = Y at *
            go_enter Tryz.func206, Tryz.ntmps206
            go_wp2_with fail
            go_quiet (fail)
            go_wp2_with fail
            refine (HSE.out _).mono ?_
            rintro e w1 ⟨rfl, hB1⟩
            have HB1 := Lib.hid ((below_drewN (Below.refl w.heap.size w) _).trans hB1); clear hB1
            go_wp2_with fail
            go_ret3
            exact open_fail s _ HO.out _ _ ⟨rfl, HB1.out⟩

set_option maxHeartbeats 400000 in
theorem rOf_any (k : Int) (s : ByteArray) (w : World) (hs : s.size ≤ 1000000000) :
    Calls Tryz.prog 165 #[.int .i8 k, .string s] w fun e w' => e = .returned (.tuple #[.string (mkS (ofR k s.data.toList).1), .int .i64 (ofR k s.data.toList).2]) ∧ Below w.heap.size w w' := by
  have ho := rOpen_any s w hs
  unfold OpenPost at ho
  have hof : ofR k s.data.toList = if (openR s.data.toList).2.2 = 0 ∧ (openR s.data.toList).1 = k then ((openR s.data.toList).2.1, 0) else ([], 30) := rfl
  rcases openR_cases s.data.toList with h | ⟨k', l, h, _, _, _, _⟩
  · rw [h] at ho hof
    rw [hof]
    have HO := Lib.hid ho; clear ho hof h
    go_enter Tryz.func165, Tryz.ntmps165
    go_wp2_with fail
    refine HO.out.mono ?_
    rintro e w1 ⟨rfl, hB⟩
    go_wp2_with fail
    go_ret2
    exact ⟨rfl, hB⟩
  · rw [h] at ho hof
    by_cases hk : k' = k
    · rw [if_pos ⟨rfl, hk⟩] at hof
      rw [hof]
      have HO := Lib.hid ho; clear ho hof h
      have hkb : (k' != k) = false := by simp [hk]
      clear hk
      go_enter Tryz.func165, Tryz.ntmps165
      go_wp2_with fail
      refine HO.out.mono ?_
      rintro e w1 ⟨rfl, hB⟩
      go_wp2_with fail
      go_ret2
      exact ⟨rfl, hB⟩
    · rw [if_neg (fun h' => hk h'.2)] at hof
      rw [hof]
      have HO := Lib.hid ho; clear ho hof h
      have hkb : (k' != k) = true := by simp [hk]
      clear hk
      go_enter Tryz.func165, Tryz.ntmps165
      go_wp2_with fail
      refine HO.out.mono ?_
      rintro e w1 ⟨rfl, hB⟩
      go_wp2_with fail
      go_ret2
      exact ⟨rfl, hB⟩
end Go.Proofs.YtkjihmlighigjaaGreat

namespace Go.Proofs.YtkjihmlighigjaaGreat
end Go.Proofs.YtkjihmlighigjaaGreat

namespace Go.Proofs.YtkjihmlighigjaaGreat
open Go.RowKit

def fieldsB : Bs → List Int → List Int → Option Bs
  | b, [], [] => some b
  | b, w :: ws, n :: l => if fitsB n w = true ∧ (b ++ leBytes w.toNat n.toNat).length ≤ 505 then fieldsB (b ++ leBytes w.toNat n.toNat) ws l else none
  | _, _, _ => none
def makeR (k : Int) (rest : Bs) (ws l : List Int) : Bs × Int :=
  match fieldsB [] ws l with
  | some b => sealR k (b ++ rest)
  | none => ([], 2)

def takeF : Bs → List Int → Option (List Int × Bs)
  | s, [] => some ([], s)
  | s, w :: ws => if (getS s 0 w).2 = 0 then (takeF (s.drop w.toNat) ws).map fun r => ((getS s 0 w).1 :: r.1, r.2) else none
def fieldsR (k : Int) (s : Bs) (ws : List Int) : List Int × Bs × Int :=
  if (ofR k s).2 = 0 then
    match takeF (ofR k s).1 ws with
    | some r => (r.1, r.2, 0)
    | none => ([], [], 30)
  else ([], [], (ofR k s).2)

theorem fieldsB_snoc (b : Bs) (ws l : List Int) (w n : Int) (h : ws.length = l.length) :
    fieldsB b (ws ++ [w]) (l ++ [n]) = (fieldsB b ws l).bind fun b' => if fitsB n w = true ∧ (b' ++ leBytes w.toNat n.toNat).length ≤ 505 then some (b' ++ leBytes w.toNat n.toNat) else none := by
  induction ws generalizing b l with
  | nil =>
    have : l = [] := List.eq_nil_of_length_eq_zero (by simpa using h.symm)
    subst this
    simp only [List.nil_append, fieldsB, Option.bind_some]
  | cons w' ws ih =>
    match l, h with
    | n' :: l, h =>
      simp only [List.cons_append, fieldsB]
      split
      · exact ih _ l (by simpa using h)
      · rfl
theorem fieldsB_none (b : Bs) (ws l ws' l' : List Int) (h : ws.length = l.length) (hn : fieldsB b ws l = none) : fieldsB b (ws ++ ws') (l ++ l') = none := by
  induction ws generalizing b l with
  | nil =>
    have : l = [] := List.eq_nil_of_length_eq_zero (by simpa using h.symm)
    subst this
    simp [fieldsB] at hn
  | cons w' ws ih =>
    match l, h with
    | n' :: l, h =>
      simp only [List.cons_append, fieldsB] at hn ⊢
      split
      · rename_i hc
        rw [if_pos hc] at hn
        exact ih _ l (by simpa using h) hn
      · rfl
theorem fieldsB_len (b : Bs) (ws l : List Int) (h : ws.length ≠ l.length) : fieldsB b ws l = none := by
  induction ws generalizing b l with
  | nil => match l, h with
    | n :: l, _ => rfl
  | cons w ws ih => match l, h with
    | [], _ => rfl
    | n :: l, h =>
      simp only [fieldsB]
      split
      · exact ih _ l (by simpa using h)
      · rfl
theorem takeF_snoc (s : Bs) (ws : List Int) (w : Int) : takeF s (ws ++ [w]) = (takeF s ws).bind fun r => if (getS r.2 0 w).2 = 0 then some (r.1 ++ [(getS r.2 0 w).1], r.2.drop w.toNat) else none := by
  induction ws generalizing s with
  | nil => simp only [List.nil_append, takeF, Option.bind_some]; split <;> simp
  | cons w' ws ih =>
    simp only [List.cons_append, takeF]
    split
    · rw [ih]
      cases takeF (s.drop w'.toNat) ws with
      | none => rfl
      | some r =>
        simp only [Option.bind_some, Option.map_some]
        split <;> simp
    · rfl
theorem takeF_none (s : Bs) (ws ws' : List Int) (h : takeF s ws = none) : takeF s (ws ++ ws') = none := by
  induction ws generalizing s with
  | nil => simp [takeF] at h
  | cons w ws ih =>
    simp only [List.cons_append, takeF] at h ⊢
    split
    · rename_i hc
      rw [if_pos hc] at h
      have : takeF (s.drop w.toNat) ws = none := by simpa using h
      rw [ih _ this]; rfl
    · rfl
theorem getS_zero {s : Bs} {w : Int} (h : (getS s 0 w).2 = 0) : 1 ≤ w ∧ w ≤ 6 ∧ w ≤ s.length := by
  unfold getS at h
  split at h
  · split at h
    · omega
    · simp at h
  · simp at h
theorem takeF_le (s : Bs) (ws : List Int) (r : List Int × Bs) (h : takeF s ws = some r) : r.2.length ≤ s.length ∧ r.1.length = ws.length := by
  induction ws generalizing s r with
  | nil => simp [takeF] at h; subst h; simp
  | cons w ws ih =>
    simp only [takeF] at h
    split at h
    · cases ht : takeF (s.drop w.toNat) ws with
      | none => rw [ht] at h; simp at h
      | some q =>
        rw [ht] at h
        simp at h
        subst h
        have := ih _ _ ht
        simp at this ⊢
        omega
    · cases h

end Go.Proofs.YtkjihmlighigjaaGreat

namespace Go.Proofs.YtkjihmlighigjaaGreat
open Go.RowKit

theorem putS_single (b : Bs) (wd n : Int) : putS b wd [n] = if fitsB n wd = true then some (b ++ leBytes wd.toNat n.toNat) else none := by
  by_cases h : fitsB n wd = true
  · have hf := of_decide_eq_true h
    rw [putS, if_pos ⟨⟨hf.1, hf.2.1⟩, by simp [h]⟩, if_pos h]
    simp [putAll]
  · rw [if_neg h, putS, if_neg (fun h' => h (by simpa using h'.2))]

theorem makeR_none {k : Int} {rest : Bs} {ws l : List Int} (h : fieldsB [] ws l = none) : makeR k rest ws l = ([], 2) := by rw [makeR, h]
theorem makeR_some {k : Int} {rest b : Bs} {ws l : List Int} (h : fieldsB [] ws l = some b) : makeR k rest ws l = sealR k (b ++ rest) := by rw [makeR, h]
theorem fields_next {ws l : List Int} {b : Bs} {j : Nat} (hw : j < ws.length) (hl : j < l.length) (h : fieldsB [] (ws.take j) (l.take j) = some b) :
    fieldsB [] (ws.take (j + 1)) (l.take (j + 1)) = if fitsB l[j] ws[j] = true ∧ (b ++ leBytes ws[j].toNat l[j].toNat).length ≤ 505 then some (b ++ leBytes ws[j].toNat l[j].toNat) else none := by
  rw [List.take_succ_eq_append_getElem hw, List.take_succ_eq_append_getElem hl, fieldsB_snoc _ _ _ _ _ (by simp; omega), h]; rfl
theorem fields_stop {ws l : List Int} {j : Nat} (hw : j < ws.length) (hl : j < l.length) (h : fieldsB [] (ws.take (j + 1)) (l.take (j + 1)) = none) : fieldsB [] ws l = none := by
  have := fieldsB_none [] _ _ (ws.drop (j + 1)) (l.drop (j + 1)) (by simp; omega) h
  rwa [List.take_append_drop, List.take_append_drop] at this

def MakePost (w : World) (r : Bs × Int) (e : Ending) (w' : World) : Prop := e = .returned (.tuple #[.string (mkS r.1), .int .i64 r.2]) ∧ Below w.heap.size w w'

set_option maxHeartbeats 1000000 in
set_option maxRecDepth 100000 in
theorem Make_any (k : Int) (rest : ByteArray) (Aw Al : Option Addr) (cw cl : Nat) (ws l : List Int) (w : World) (hk : k ≤ 127) (hrest : rest.size ≤ 1000000) (_hll : l.length ≤ 1000000) (hwl : ws.length ≤ 1000000)
    (hw : Reads w w.heap.size 1 Aw ws.length (icells ws)) (hl : Reads w w.heap.size 1 Al l.length (icells l)) :
    Calls Tryz.prog 246 #[.int .i8 k, .string rest, .slice Aw ws.length cw, .slice Al l.length cl] w fun e w' => MakePost w (makeR k rest.data.toList ws l) e w' := by
  by_cases hlen : ws.length = l.length
  · have hlb : ((ws.length : Int) != (l.length : Int)) = false := by simp [hlen]
    have hlw : l.length ≤ ws.length := by omega
    have hlw2 : ws.length ≤ l.length := by omega
    clear hlen
    have HW := Lib.hid hw; clear hw
    have HL := Lib.hid hl; clear hl
    go_enter Tryz.func246, Tryz.ntmps246
    go_wp2_with fail
    have hs0 : Sect (w.alloc (Obj.cells #[.slice none 0 0, .int .i64 0, .int .i8 k] 336)) w.heap.size (.slice none 0 0) 0 k := Blk.new w _ _
    have HS0 := Lib.hid hs0; clear hs0
    go_loopg [23] l.length (fun gk i wr => ∃ (j : Nat) (b : Bs) (A : Option Addr) (c : Nat), j ≤ l.length ∧ gk = l.length - j ∧ i = .int .i64 j ∧ fieldsB [] (ws.take j) (l.take j) = some b ∧ b.length ≤ 505 ∧
        Sect wr w.heap.size (.slice A b.length c) 0 k ∧ Reads wr wr.heap.size 1 A b.length (bcells b) ∧ Below w.heap.size w wr)
    case atStart => exact ⟨0, [], none, 0, by omega, rfl, rfl, rfl, by simp, HS0.out, Reads.none_, (Below.refl _ _).alloc (Nat.le_refl _) _⟩
    case round =>
      clear HS0
      obtain ⟨j, b, A, c, hj, rfl, rfl, hf, hb5, hs, hr, hB⟩ := hrel
      have HF := Lib.hid hf; clear hf
      by_cases hlt : j < l.length
      · have hlt2 : j < ws.length := by omega
        obtain ⟨al, rfl, hal, hcl⟩ := (HL.out.below hB).cell_ hlt (icells_get l j hlt)
        obtain ⟨aw, rfl, haw, hcw⟩ := (HW.out.below hB).cell_ hlt2 (icells_get ws j hlt2)
        have hnx := fields_next hlt2 hlt HF.out
        have hps := putS_single b ws[j] l[j]
        have HNX := Lib.hid hnx; clear hnx
        have HPS := Lib.hid hps; clear hps
        have HSTOP := Lib.hid (@fields_stop ws l j hlt2 hlt)
        generalize ws[j] = wj at *
        generalize l[j] = nj at *
        have HS := Lib.hid hs; clear hs
        have HR := Lib.hid hr; clear hr
        have hsz := hB.size
        have HB := Lib.hid hB; clear hB
        have hcw2 : ∀ o, (wr.alloc o).cell? (aw.add j) = some (.int .i64 wj) := fun o => (World.cell?_alloc_lt wr o (aw.add j) (by rw [block_of_add]; omega)).trans hcw
        have hi1 : (0 : Int) ≤ (j : Int) := by omega
        have hi2 : (j : Int) < (ws.length : Int) := by omega
        go_wp2_with fail
        go_region_with (first
          | (go_at_call 278; refine (sput_any w.heap.size A (some ⟨wr.heap.size, 0, none⟩) c 1 0 k wj b [nj] _ (by simp; omega) (by exact HS.out.alloc _) (by exact (HR.out.alloc (Nat.le_refl _) _).more (by simp)) (by exact reads_blk (Blk.new wr 3 #[Value.int IntKind.i64 nj]) rfl rfl)).mono ?_; rintro e w5 ⟨rfl, hpost⟩))
        all_goals
          rw [HPS.out] at hpost
          by_cases hfit : fitsB nj wj = true
          · rw [if_pos hfit] at hpost
            obtain ⟨v, hs5, hown5, hg5⟩ := hpost
            have hB5 : Below w.heap.size w w5 := below_only ((HB.out.alloc hsz (Obj.cells #[Value.int IntKind.i64 nj] 3)).drew) hg5 (Nat.le_refl _)
            obtain ⟨A5, c5, rfl, -, -, hr5⟩ := own_reads hown5
            have d1 : w5.cell? ⟨w.heap.size, 1, none⟩ = some (.int .i64 0) := by rw [hs5.cell 1]; rfl
            have d0 : w5.cell? ⟨w.heap.size, 0, none⟩ = some (.slice A5 (b ++ leBytes wj.toNat nj.toNat).length c5) := by rw [hs5.cell 0]; rfl
            have HS5 := Lib.hid hs5; clear hs5
            have HR5 := Lib.hid hr5; clear hr5 hown5 hg5
            have HB5 := Lib.hid hB5; clear hB5
            generalize hnb : b ++ leBytes wj.toNat nj.toNat = nb at *
            have HNB := Lib.hid hnb; clear hnb
            by_cases h5 : nb.length ≤ 505
            · have hnew := HNX.out
              rw [if_pos ⟨hfit, h5⟩] at hnew
              have HNEW := Lib.hid hnew; clear hnew
              have h5' : (nb.length : Int) ≤ 505 := by omega
              clear hfit
              go_wp2_with fail
              go_roundg (l.length - (j + 1))
              case rel => exact ⟨j + 1, nb, A5, c5, by omega, rfl, by go_num, HNEW.out, h5, HS5.out, HR5.out, HB5.out⟩
              case measure => omega
            · have hnew := HNX.out
              rw [if_neg (fun h => h5 h.2)] at hnew
              have hm := makeR_none (k := k) (rest := rest.data.toList) (HSTOP.out hnew)
              have HM := Lib.hid hm; clear hm hnew
              have h5' : (505 : Int) < (nb.length : Int) := by omega
              clear hfit
              go_wp2_with fail
              go_ret2
              show MakePost w (makeR k rest.data.toList ws l) _ _
              rw [HM.out]
              exact ⟨rfl, HB5.out⟩
          · rw [if_neg hfit] at hpost
            obtain ⟨hs5, hg5⟩ := hpost
            have hB5 : Below w.heap.size w w5 := below_only ((HB.out.alloc hsz (Obj.cells #[Value.int IntKind.i64 nj] 3)).drew) hg5 (Nat.le_refl _)
            have d1 : w5.cell? ⟨w.heap.size, 1, none⟩ = some (.int .i64 2) := by rw [hs5.cell 1]; rfl
            have hnew := HNX.out
            rw [if_neg (fun h => hfit h.1)] at hnew
            have hm := makeR_none (k := k) (rest := rest.data.toList) (HSTOP.out hnew)
            have HM := Lib.hid hm; clear hm hnew
            have HB5 := Lib.hid hB5; clear hB5 hg5 hs5 hfit
            go_wp2_with fail
            go_ret2
            show MakePost w (makeR k rest.data.toList ws l) _ _
            rw [HM.out]
            exact ⟨rfl, HB5.out⟩
      · obtain rfl : j = l.length := by omega
        have hf := HF.out
        rw [List.take_length, List.take_of_length_le (by omega)] at hf
        have hm := makeR_some (k := k) (rest := rest.data.toList) hf
        have HM := Lib.hid hm; clear hm hf
        have d0 : wr.cell? ⟨w.heap.size, 0, none⟩ = some (.slice A b.length c) := by rw [hs.cell 0]; rfl
        have hcv := run_string_of (P := Tryz.prog) wr 175 9 5 Tryz.underlying175 Tryz.underlying5 Tryz.underlying9 wr.heap.size A c b hr
        have hms := mkS_size b
        have hse := sealed_any w.heap.size A b.length c k (mkS b ++ rest) wr hk hs
        rw [show (mkS b ++ rest).data.toList = b ++ rest.data.toList by simp [mkS]] at hse
        have HSE := Lib.hid hse; clear hse hs hr
        go_wp2_with fail
        refine HSE.out.mono ?_
        rintro e w5 ⟨rfl, hg5⟩
        have HB5 := Lib.hid (below_only hB hg5 (Nat.le_refl _)); clear hg5
        go_wp2_with fail
        go_ret2
        show MakePost w (makeR k rest.data.toList ws l) _ _
        rw [HM.out]
        exact ⟨rfl, HB5.out⟩
  · have hlb : ((ws.length : Int) != (l.length : Int)) = true := by simp; omega
    have hm := makeR_none (k := k) (rest := rest.data.toList) (fieldsB_len [] ws l hlen)
    rw [hm]
    clear hw hl hm hlen
    go_enter Tryz.func246, Tryz.ntmps246
    go_wp2_with fail
    go_ret2
    exact ⟨rfl, (Below.refl _ _).alloc (Nat.le_refl _) _⟩
end Go.Proofs.YtkjihmlighigjaaGreat

namespace Go.Proofs.YtkjihmlighigjaaGreat
open Go.RowKit

def FieldsPost (w : World) (r : List Int × Bs × Int) (e : Ending) (w' : World) : Prop :=
  ∃ v, e = .returned (.tuple #[v, .string (mkS r.2.1), .int .i64 r.2.2]) ∧ w'.ownsRow w.heap.size 3 1 v r.1.length (icells r.1) ∧ Below w.heap.size w w'

theorem fieldsR_bad {k : Int} {s : Bs} {ws : List Int} (h : (ofR k s).2 ≠ 0) : fieldsR k s ws = ([], [], (ofR k s).2) := by rw [fieldsR, if_neg h]
theorem fieldsR_none {k : Int} {s : Bs} {ws : List Int} (h : (ofR k s).2 = 0) (ht : takeF (ofR k s).1 ws = none) : fieldsR k s ws = ([], [], 30) := by rw [fieldsR, if_pos h, ht]
theorem fieldsR_some {k : Int} {s : Bs} {ws : List Int} {r : List Int × Bs} (h : (ofR k s).2 = 0) (ht : takeF (ofR k s).1 ws = some r) : fieldsR k s ws = (r.1, r.2, 0) := by rw [fieldsR, if_pos h, ht]
theorem take_next {load : Bs} {ws : List Int} {j : Nat} {r : List Int × Bs} (hj : j < ws.length) (h : takeF load (ws.take j) = some r) :
    takeF load (ws.take (j + 1)) = if (getS r.2 0 ws[j]).2 = 0 then some (r.1 ++ [(getS r.2 0 ws[j]).1], r.2.drop ws[j].toNat) else none := by
  rw [List.take_succ_eq_append_getElem hj, takeF_snoc, h]; rfl
theorem take_stop {load : Bs} {ws : List Int} {j : Nat} (h : takeF load (ws.take (j + 1)) = none) : takeF load ws = none := by
  have := takeF_none load _ (ws.drop (j + 1)) h
  rwa [List.take_append_drop] at this
theorem extract_end (s : ByteArray) (k : Nat) : s.extract k s.size = mkS (s.data.toList.drop k) := by
  rw [← mkS_self (s.extract k s.size), Lib.extract_data]
  congr 1
  exact List.take_of_length_le (by simp)

set_option maxHeartbeats 1000000 in
set_option maxRecDepth 100000 in
theorem Fields_any (k : Int) (s : ByteArray) (Aw : Option Addr) (cw : Nat) (ws : List Int) (w : World) (hs : s.size ≤ 1000000000) (hwl : ws.length ≤ 1000000)
    (hw : Reads w w.heap.size 1 Aw ws.length (icells ws)) :
    Calls Tryz.prog 155 #[.int .i8 k, .string s, .slice Aw ws.length cw] w fun e w' => FieldsPost w (fieldsR k s.data.toList ws) e w' := by
  obtain ⟨i0, hi0, hz0, hz1, hz2⟩ := info_parts i64_info
  have hof := Of_any k s w hs
  have hbad := @fieldsR_bad k s.data.toList ws
  have hnone := @fieldsR_none k s.data.toList ws
  have hsome := @fieldsR_some k s.data.toList ws
  have hol : (ofR k s.data.toList).1.length ≤ 505 := by
    unfold ofR
    rcases openR_cases s.data.toList with h | ⟨k', l, h, _, _, hl, _⟩
    · rw [h]; simp
    · rw [h]; dsimp only; split <;> simp [hl]
  generalize (ofR k s.data.toList).1 = load at *
  generalize hoe : (ofR k s.data.toList).2 = oe at *
  have HW := Lib.hid hw; clear hw
  have HOF := Lib.hid hof; clear hof hoe
  by_cases he : oe = 0
  · subst he
    have HN := Lib.hid (hnone rfl); clear hnone
    have HSO := Lib.hid (@hsome · rfl); clear hsome hbad
    go_enter Tryz.func155, Tryz.ntmps155
    go_wp2_with fail
    refine HOF.out.mono ?_
    rintro e w1 ⟨rfl, hB1⟩
    have HB1 := Lib.hid hB1; clear hB1
    go_wp2_with fail
    go_loopg [6, 7, 8, 21] ws.length (fun gk v r7 e8 i wr => ∃ (j : Nat) (r : List Int × Bs), j ≤ ws.length ∧ gk = ws.length - j ∧ i = .int .i64 j ∧ e8 = .int .i64 0 ∧ r7 = .string (mkS r.2) ∧ takeF load (ws.take j) = some r ∧
        wr.ownsRow w.heap.size 3 1 v r.1.length (icells r.1) ∧ Below w.heap.size w wr)
    case atStart => exact ⟨0, ([], load), by omega, rfl, rfl, rfl, rfl, rfl, World.ownsRow_nil _ _ _ _, HB1.out⟩
    case round =>
      clear HB1
      obtain ⟨j, ⟨rl, rt⟩, hj, rfl, rfl, rfl, rfl, ht, hown, hB⟩ := hrel
      dsimp only at ht hown ⊢
      have htl := takeF_le _ _ _ ht
      dsimp only at htl
      rw [List.length_take] at htl
      have hrt : rt.length ≤ 505 := by omega
      have hrl : rl.length ≤ 1000000 := by omega
      have HT := Lib.hid ht; clear ht htl
      by_cases hlt : j < ws.length
      · obtain ⟨aw, rfl, haw, hcw⟩ := (HW.out.below hB).cell_ hlt (icells_get ws j hlt)
        have hnx := take_next hlt HT.out
        have hst := @take_stop load ws j
        dsimp only at hnx
        have hget := get_any (mkS rt) 0 ws[j] wr (by rw [mkS_size]; unfold maxLen; omega)
        rw [mkS_toList] at hget
        have hgz := @getS_zero rt ws[j]
        generalize ws[j] = wj at *
        generalize hg1 : (getS rt 0 wj).1 = n at *
        generalize hg2 : (getS rt 0 wj).2 = ge at *
        have HG := Lib.hid hget; clear hget hg1 hg2
        have HST := Lib.hid hst; clear hst
        have HNX := Lib.hid hnx; clear hnx
        by_cases hge : ge = 0
        · subst hge
          obtain ⟨hw1, hw6, hwl2⟩ := hgz rfl
          obtain ⟨wn, rfl⟩ := Int.eq_ofNat_of_zero_le (show 0 ≤ wj by omega)
          have hnew := HNX.out
          rw [if_pos rfl, Int.toNat_natCast] at hnew
          have HNEW := Lib.hid hnew; clear hnew HNX hgz HST
          have hsz : (mkS rt).size = rt.length := mkS_size rt
          have hex := extract_end (mkS rt) wn
          rw [mkS_toList] at hex
          have hwn : wn ≤ (mkS rt).size := by omega
          have hwn1 : (wn : Int) ≤ ((mkS rt).size : Int) := by omega
          have hwn0 : (0 : Int) ≤ (wn : Int) := by omega
          have HEX := Lib.hid hex; clear hex
          have HSZ := Lib.hid hsz; clear hsz
          have HO := Lib.hid hown; clear hown
          go_wp2_with fail
          refine HG.out.mono ?_
          rintro e w' ⟨rfl, rfl⟩
          go_wp2_with fail
          go_region_held3 (fun _ => True) (trivial)
            ((refine step_append_any _ (by rfl) (.tmp 35) (.tmp 37) 75 (by rfl) w.heap.size 3 i0 (.int .i64 0) 1 8 Tryz.underlying75 hi0 hz0 hz1 hz2 rfl (by omega) u6 rl.length (icells rl) (by rfl) (by exact HO.out.alloc _) _ (some ⟨wr.heap.size, 0, none⟩) 1 1 (icells [n]) (by rfl) (by exact reads_blk (Blk.new wr 3 #[Value.int IntKind.i64 n]) rfl rfl) (icells_one _) (by unfold maxLen; omega) (by omega) (by have := hB.size; simp; omega) ?_; intro v1 w1 hown1 hg1 hat1))
          have hB2 : Below w.heap.size w w1 := below_own (hB.alloc hB.size (Obj.cells #[Value.int IntKind.i64 n] 3)).drew (HO.out.alloc _).drew hg1 (by have := hB.size; show _ ≤ (wr.heap.push _).size; simp; omega)
          have hown2 : w1.ownsRow w.heap.size 3 1 v1 (rl ++ [n]).length (icells (rl ++ [n])) := by rw [List.length_append, icells_append]; exact hown1
          have HO2 := Lib.hid hown2; clear hown1 hown2 hg1 hat1 HO
          have HB2 := Lib.hid hB2; clear hB2 hB
          go_wp2_with fail
          go_roundg (ws.length - (j + 1))
          case rel => exact ⟨j + 1, (rl ++ [n], rt.drop wn), by omega, rfl, by go_num, rfl, by rw [HEX.out], HNEW.out, HO2.out, HB2.out⟩
          case measure => omega
        · have hgb : (ge != 0) = true := by simp [hge]
          have hnew := HNX.out
          rw [if_neg hge] at hnew
          have hres := HN.out (HST.out hnew)
          have HRES := Lib.hid hres; clear hres hnew hge HNX HST hgz
          go_wp2_with fail
          refine HG.out.mono ?_
          rintro e w' ⟨rfl, rfl⟩
          go_wp2_with fail
          go_ret3
          show FieldsPost w (fieldsR k s.data.toList ws) _ _
          rw [HRES.out]
          exact ⟨_, rfl, World.ownsRow_nil _ _ _ _, hB⟩
      · obtain rfl : j = ws.length := by omega
        have ht := HT.out
        rw [List.take_length] at ht
        have hres := HSO.out _ ht
        have HRES := Lib.hid hres; clear hres ht
        obtain ⟨A1, c1, rfl, -, -, -⟩ := own_reads hown
        go_wp2_with fail
        go_ret3
        show FieldsPost w (fieldsR k s.data.toList ws) _ _
        rw [HRES.out]
        exact ⟨_, rfl, hown, hB⟩
  · have hres := hbad he
    have HRES := Lib.hid hres; clear hres hbad hnone hsome
    have heb : (oe != 0) = true := by simp [he]
    clear he
    go_enter Tryz.func155, Tryz.ntmps155
    go_wp2_with fail
    refine HOF.out.mono ?_
    rintro e w1 ⟨rfl, hB1⟩
    have HB1 := Lib.hid hB1; clear hB1
    go_wp2_with fail
    go_loopg [6, 7, 8, 21] 1 (fun gk v r7 e8 i wr => v = .slice none 0 0 ∧ e8 = .int .i64 oe ∧ i = .int .i64 0 ∧ Below w.heap.size w wr)
    case atStart => exact ⟨rfl, rfl, rfl, HB1.out⟩
    case round =>
      clear HB1
      obtain ⟨rfl, rfl, rfl, hB⟩ := hrel
      by_cases hlt : 0 < ws.length
      · obtain ⟨aw, rfl, haw, hcw⟩ := (HW.out.below hB).cell_ hlt (icells_get ws 0 hlt)
        have hcw' : wr.cell? aw = some (.int .i64 ws[0]) := by simpa [Addr.add] using hcw
        go_wp2_with fail
        go_ret3
        show FieldsPost w (fieldsR k s.data.toList ws) _ _
        rw [HRES.out]
        exact ⟨_, rfl, World.ownsRow_nil _ _ _ _, hB⟩
      · have hle : ws.length ≤ 0 := by omega
        go_wp2_with fail
        go_ret3
        show FieldsPost w (fieldsR k s.data.toList ws) _ _
        rw [HRES.out]
        exact ⟨_, rfl, World.ownsRow_nil _ _ _ _, hB⟩

end Go.Proofs.YtkjihmlighigjaaGreat

namespace Go.Proofs.YtkjihmlighigjaaGreat
open Go.RowKit

def PutU (w : World) (r : Option Bs) (A : Option Addr) (n : Nat) (ec : Int) (w' : World) : Prop :=
  match r with
  | some x => ec = 0 ∧ n = x.length ∧ Reads w' w'.heap.size 1 A x.length (bcells x) ∧ Below w.heap.size w w'
  | none => ec = 2 ∧ Below w.heap.size w w'
theorem put_uni {w w' : World} {r : Option Bs} {e : Ending} (h : PutPost w r e w') : ∃ A n c ec, e = .returned (.tuple #[.slice A n c, .int .i64 ec]) ∧ PutU w r A n ec w' := by
  cases r with
  | none => obtain ⟨rfl, hB⟩ := h; exact ⟨_, _, _, _, rfl, rfl, hB⟩
  | some x =>
    obtain ⟨v, rfl, hown, hB⟩ := h
    obtain ⟨A, c, rfl, -, -, hr⟩ := own_reads hown
    exact ⟨_, _, _, _, rfl, rfl, rfl, hr, hB⟩

set_option maxHeartbeats 1000000 in
set_option maxRecDepth 100000 in
theorem rMake_any (k : Int) (rest : ByteArray) (Aw Al : Option Addr) (cw cl : Nat) (ws l : List Int) (w : World) (hk : k ≤ 127) (hrest : rest.size ≤ 1000000) (_hll : l.length ≤ 1000000) (hwl : ws.length ≤ 1000000)
    (hw : Reads w w.heap.size 1 Aw ws.length (icells ws)) (hl : Reads w w.heap.size 1 Al l.length (icells l)) :
    Calls Tryz.prog 67 #[.int .i8 k, .string rest, .slice Aw ws.length cw, .slice Al l.length cl] w fun e w' => MakePost w (makeR k rest.data.toList ws l) e w' := by
  by_cases hlen : ws.length = l.length
  · have hlb : ((ws.length : Int) != (l.length : Int)) = false := by simp [hlen]
    have hlw : l.length ≤ ws.length := by omega
    have hlw2 : ws.length ≤ l.length := by omega
    clear hlen
    have HW := Lib.hid hw; clear hw
    have HL := Lib.hid hl; clear hl
    go_enter Tryz.func67, Tryz.ntmps67
    go_wp2_with fail
    go_loopg [10, 11] l.length (fun gk v i wr => ∃ (j : Nat) (b : Bs) (A : Option Addr) (c : Nat), j ≤ l.length ∧ gk = l.length - j ∧ i = .int .i64 j ∧ v = .slice A b.length c ∧ fieldsB [] (ws.take j) (l.take j) = some b ∧ b.length ≤ 505 ∧
        Reads wr wr.heap.size 1 A b.length (bcells b) ∧ Below w.heap.size w wr)
    case atStart => exact ⟨0, [], none, 0, by omega, rfl, rfl, rfl, rfl, by simp, Reads.none_, Below.refl _ _⟩
    case round =>
      obtain ⟨j, b, A, c, hj, rfl, rfl, rfl, hf, hb5, hr, hB⟩ := hrel
      have HF := Lib.hid hf; clear hf
      by_cases hlt : j < l.length
      · have hlt2 : j < ws.length := by omega
        obtain ⟨al, rfl, hal, hcl⟩ := (HL.out.below hB).cell_ hlt (icells_get l j hlt)
        obtain ⟨aw, rfl, haw, hcw⟩ := (HW.out.below hB).cell_ hlt2 (icells_get ws j hlt2)
        have hnx := fields_next hlt2 hlt HF.out
        have hps := putS_single b ws[j] l[j]
        have HNX := Lib.hid hnx; clear hnx
        have HPS := Lib.hid hps; clear hps
        have HSTOP := Lib.hid (@fields_stop ws l j hlt2 hlt)
        generalize ws[j] = wj at *
        generalize l[j] = nj at *
        have HR := Lib.hid hr; clear hr
        have hsz := hB.size
        have HB := Lib.hid hB; clear hB
        have hcw2 : ∀ o, (wr.alloc o).cell? (aw.add j) = some (.int .i64 wj) := fun o => (World.cell?_alloc_lt wr o (aw.add j) (by rw [block_of_add]; omega)).trans hcw
        have hi1 : (0 : Int) ≤ (j : Int) := by omega
        have hi2 : (j : Int) < (ws.length : Int) := by omega
        have hi3 : (j : Int) < (l.length : Int) := by omega
        go_wp2_with fail
        go_region_with (first
          | (go_at_call 87; refine (rPut_any A (some ⟨wr.heap.size, 0, none⟩) c 1 wj b [nj] _ (by simp; omega) (by exact (HR.out.alloc (Nat.le_refl _) _).more (by simp)) (by exact reads_blk (Blk.new wr 3 #[Value.int IntKind.i64 nj]) rfl rfl)).mono ?_; intro e w5 hpost; obtain ⟨A5, n5, c5, ec, rfl, hU⟩ := put_uni hpost; clear hpost))
        all_goals
          rw [HPS.out] at hU
          by_cases hfit : fitsB nj wj = true
          · rw [if_pos hfit] at hU
            obtain ⟨rfl, rfl, hr5, hB5'⟩ := hU
            have hB5 : Below w.heap.size w w5 := below_step ((HB.out.alloc hsz (Obj.cells #[Value.int IntKind.i64 nj] 3)).drew) hB5' (by exact (HB.out.alloc hsz (Obj.cells #[Value.int IntKind.i64 nj] 3)).size)
            have HR5 := Lib.hid hr5; clear hr5
            have HB5 := Lib.hid hB5; clear hB5 hB5'
            generalize hnb : b ++ leBytes wj.toNat nj.toNat = nb at *
            have HNB := Lib.hid hnb; clear hnb
            by_cases h5 : nb.length ≤ 505
            · have hnew := HNX.out
              rw [if_pos ⟨hfit, h5⟩] at hnew
              have HNEW := Lib.hid hnew; clear hnew
              have h5' : (nb.length : Int) ≤ 505 := by omega
              clear hfit
              go_wp2_with fail
              go_roundg (l.length - (j + 1))
              case rel => exact ⟨j + 1, nb, A5, c5, by omega, rfl, by go_num, rfl, HNEW.out, h5, HR5.out, HB5.out⟩
              case measure => omega
            · have hnew := HNX.out
              rw [if_neg (fun h => h5 h.2)] at hnew
              have hm := makeR_none (k := k) (rest := rest.data.toList) (HSTOP.out hnew)
              have HM := Lib.hid hm; clear hm hnew
              have h5' : (505 : Int) < (nb.length : Int) := by omega
              clear hfit
              go_wp2_with fail
              go_ret2
              show MakePost w (makeR k rest.data.toList ws l) _ _
              rw [HM.out]
              exact ⟨rfl, HB5.out⟩
          · rw [if_neg hfit] at hU
            obtain ⟨rfl, hB5'⟩ := hU
            have hB5 : Below w.heap.size w w5 := below_step ((HB.out.alloc hsz (Obj.cells #[Value.int IntKind.i64 nj] 3)).drew) hB5' (by exact (HB.out.alloc hsz (Obj.cells #[Value.int IntKind.i64 nj] 3)).size)
            have hnew := HNX.out
            rw [if_neg (fun h => hfit h.1)] at hnew
            have hm := makeR_none (k := k) (rest := rest.data.toList) (HSTOP.out hnew)
            have HM := Lib.hid hm; clear hm hnew
            have HB5 := Lib.hid hB5; clear hB5 hB5' hfit
            go_wp2_with fail
            go_ret2
            show MakePost w (makeR k rest.data.toList ws l) _ _
            rw [HM.out]
            exact ⟨rfl, HB5.out⟩
      · obtain rfl : j = l.length := by omega
        have hf := HF.out
        rw [List.take_length, List.take_of_length_le (by omega)] at hf
        have hm := makeR_some (k := k) (rest := rest.data.toList) hf
        have HM := Lib.hid hm; clear hm hf
        have hcv := run_string_of (P := Tryz.prog) wr 175 9 5 Tryz.underlying175 Tryz.underlying5 Tryz.underlying9 wr.heap.size A c b hr
        have hms := mkS_size b
        have hse := rSeal_any k (mkS b ++ rest) wr hk (by rw [ByteArray.size_append, hms]; omega)
        rw [show (mkS b ++ rest).data.toList = b ++ rest.data.toList by simp [mkS]] at hse
        have HSE := Lib.hid hse; clear hse hr
        go_wp2_with fail
        refine HSE.out.mono ?_
        rintro e w5 ⟨rfl, hg5⟩
        have HB5 := Lib.hid (below_step hB hg5 hB.size); clear hg5
        go_wp2_with fail
        go_ret2
        show MakePost w (makeR k rest.data.toList ws l) _ _
        rw [HM.out]
        exact ⟨rfl, HB5.out⟩
  · have hlb : ((ws.length : Int) != (l.length : Int)) = true := by simp; omega
    have hm := makeR_none (k := k) (rest := rest.data.toList) (fieldsB_len [] ws l hlen)
    rw [hm]
    clear hw hl hm hlen
    go_enter Tryz.func67, Tryz.ntmps67
    go_wp2_with fail
    go_ret2
    exact ⟨rfl, Below.refl _ _⟩

theorem getS_drop (l : Bs) (a : Nat) (w : Int) (h : a ≤ l.length) : getS l a w = getS (l.drop a) 0 w := by
  unfold getS
  by_cases hw : 1 ≤ w ∧ w ≤ 6
  · rw [if_pos hw, if_pos hw]
    have e0 : (0 ≤ (0 : Int) ∧ (0 : Int) + w ≤ ((l.drop a).length : Int)) = (0 ≤ (a : Int) ∧ (a : Int) + w ≤ (l.length : Int)) := by
      rw [List.length_drop]; apply propext; omega
    simp only [e0, Int.toNat_natCast, Int.toNat_zero, List.drop_zero]
  · rw [if_neg hw, if_neg hw]

set_option maxHeartbeats 1000000 in
set_option maxRecDepth 100000 in
theorem rFields_any (k : Int) (s : ByteArray) (Aw : Option Addr) (cw : Nat) (ws : List Int) (w : World) (hs : s.size ≤ 1000000000) (hwl : ws.length ≤ 1000000)
    (hw : Reads w w.heap.size 1 Aw ws.length (icells ws)) :
    Calls Tryz.prog 127 #[.int .i8 k, .string s, .slice Aw ws.length cw] w fun e w' => FieldsPost w (fieldsR k s.data.toList ws) e w' := by
  obtain ⟨i0, hi0, hz0, hz1, hz2⟩ := info_parts i64_info
  have hof := rOf_any k s w hs
  have hbad := @fieldsR_bad k s.data.toList ws
  have hnone := @fieldsR_none k s.data.toList ws
  have hsome := @fieldsR_some k s.data.toList ws
  have hol : (ofR k s.data.toList).1.length ≤ 505 := by
    unfold ofR
    rcases openR_cases s.data.toList with h | ⟨k', l, h, _, _, hl, _⟩
    · rw [h]; simp
    · rw [h]; dsimp only; split <;> simp [hl]
  generalize (ofR k s.data.toList).1 = load at *
  generalize hoe : (ofR k s.data.toList).2 = oe at *
  have HW := Lib.hid hw; clear hw
  have HOF := Lib.hid hof; clear hof hoe
  by_cases he : oe = 0
  · subst he
    have HN := Lib.hid (hnone rfl); clear hnone
    have HSO := Lib.hid (@hsome · rfl); clear hsome hbad
    have hlz := mkS_size load
    have hll : (mkS load).data.toList = load := rfl
    go_enter Tryz.func127, Tryz.ntmps127
    go_wp2_with fail
    refine HOF.out.mono ?_
    rintro e w1 ⟨rfl, hB1⟩
    have HB1 := Lib.hid hB1; clear hB1
    have HLZ := Lib.hid hlz; clear hlz
    have HLL := Lib.hid hll; clear hll
    generalize mkS load = LD at *
    go_wp2_with fail
    go_loopg [11, 12, 13] ws.length (fun gk v at_ i wr => ∃ (j a : Nat) (rl : List Int), j ≤ ws.length ∧ gk = ws.length - j ∧ i = .int .i64 j ∧ at_ = .int .i64 a ∧ a ≤ load.length ∧ takeF load (ws.take j) = some (rl, load.drop a) ∧
        wr.ownsRow w.heap.size 3 1 v rl.length (icells rl) ∧ Below w.heap.size w wr)
    case atStart => exact ⟨0, 0, [], by omega, rfl, rfl, rfl, by omega, rfl, World.ownsRow_nil _ _ _ _, HB1.out⟩
    case round =>
      clear HB1
      obtain ⟨j, a, rl, hj, rfl, rfl, rfl, ha, ht, hown, hB⟩ := hrel
      have htl := takeF_le _ _ _ ht
      dsimp only at htl
      rw [List.length_take] at htl
      have hrl : rl.length ≤ 1000000 := by omega
      have HT := Lib.hid ht; clear ht htl
      by_cases hlt : j < ws.length
      · obtain ⟨aw, rfl, haw, hcw⟩ := (HW.out.below hB).cell_ hlt (icells_get ws j hlt)
        have hnx := take_next hlt HT.out
        have hst := @take_stop load ws j
        dsimp only at hnx
        have hget := rGet_any LD a ws[j] wr (by rw [HLZ.out]; unfold maxLen; omega)
        rw [HLL.out, getS_drop load a _ ha] at hget
        have hgz := @getS_zero (load.drop a) ws[j]
        generalize ws[j] = wj at *
        generalize hg1 : (getS (load.drop a) 0 wj).1 = n at *
        generalize hg2 : (getS (load.drop a) 0 wj).2 = ge at *
        have HG := Lib.hid hget; clear hget hg1 hg2
        have HST := Lib.hid hst; clear hst
        have HNX := Lib.hid hnx; clear hnx
        by_cases hge : ge = 0
        · subst hge
          obtain ⟨hw1, hw6, hwl2⟩ := hgz rfl
          obtain ⟨wn, rfl⟩ := Int.eq_ofNat_of_zero_le (show 0 ≤ wj by omega)
          have hnew := HNX.out
          rw [if_pos rfl, Int.toNat_natCast, List.drop_drop] at hnew
          rw [List.length_drop] at hwl2
          have HNEW := Lib.hid hnew; clear hnew HNX hgz HST
          have HO := Lib.hid hown; clear hown
          have hsz := hB.size
          have hcw2 : ∀ o, (wr.alloc o).cell? (aw.add j) = some (.int .i64 wn) := fun o => (World.cell?_alloc_lt wr o (aw.add j) (by rw [block_of_add]; omega)).trans hcw
          go_wp2_with fail
          refine HG.out.mono ?_
          rintro e w' ⟨rfl, rfl⟩
          go_wp2_with (at_builtin; refine wpList_append_any _ rfl (.tmp 43) (.tmp 45) 75 rfl w.heap.size 3 i0 (.int .i64 0) 1 8 Tryz.underlying75 hi0 hz0 hz1 hz2 rfl (by decide) _ rl.length (icells rl) (by rfl) (HO.out.alloc _) _ (some ⟨wr.heap.size, 0, none⟩) 1 1 (icells [n]) (by rfl) (by exact reads_blk (Blk.new wr 3 #[Value.int IntKind.i64 n]) rfl rfl) (icells_one _) (by unfold maxLen; omega) (by omega) (by simp; omega) ?_; intro v1 w1 hown1 hg1 hat1; (have hB2 : Below w.heap.size w w1 := below_own (hB.alloc hB.size (Obj.cells #[Value.int IntKind.i64 n] 3)) (HO.out.alloc _) hg1 (by simp; omega)); (have hown2 : w1.ownsRow w.heap.size 3 1 v1 (rl ++ [n]).length (icells (rl ++ [n])) := by (rw [List.length_append, icells_append]; exact hown1)); (have hcw3 : w1.cell? (aw.add j) = some (.int .i64 wn) := (hB2.cell (by rw [block_of_add]; exact haw)).trans ((hB.cell (by rw [block_of_add]; exact haw)).symm.trans hcw)); have HO2 := Lib.hid hown2; clear hown1 hown2 hg1 hat1; have HB2 := Lib.hid hB2; clear hB2)
          go_roundg (ws.length - (j + 1))
          case rel => exact ⟨j + 1, a + wn, rl ++ [n], by omega, rfl, by go_num, by go_num, by omega, HNEW.out, HO2.out, HB2.out⟩
          case measure => omega
        · have hgb : (ge != 0) = true := by simp [hge]
          have hnew := HNX.out
          rw [if_neg hge] at hnew
          have hres := HN.out (HST.out hnew)
          have HRES := Lib.hid hres; clear hres hnew hge HNX HST hgz
          go_wp2_with fail
          refine HG.out.mono ?_
          rintro e w' ⟨rfl, rfl⟩
          go_wp2_with fail
          go_ret3
          show FieldsPost w (fieldsR k s.data.toList ws) _ _
          rw [HRES.out]
          exact ⟨_, rfl, World.ownsRow_nil _ _ _ _, hB⟩
      · obtain rfl : j = ws.length := by omega
        have ht := HT.out
        rw [List.take_length] at ht
        have hres := HSO.out _ ht
        have HRES := Lib.hid hres; clear hres ht
        have hex := extract_end LD a
        rw [HLL.out] at hex
        have HEX := Lib.hid hex; clear hex
        have ha2 : a ≤ LD.size := by rw [HLZ.out]; exact ha
        have ha1 : (a : Int) ≤ (LD.size : Int) := by omega
        have ha0 : (0 : Int) ≤ (a : Int) := by omega
        obtain ⟨A1, c1, rfl, -, -, -⟩ := own_reads hown
        have HO := Lib.hid hown; clear hown
        go_wp2_with fail
        go_quiet (fail)
        go_wp2_with fail
        go_ret3
        show FieldsPost w (fieldsR k s.data.toList ws) _ _
        rw [HRES.out]
        exact ⟨_, by rw [← HEX.out]; rfl, HO.out, below_drewN hB _⟩
  · have hres := hbad he
    have HRES := Lib.hid hres; clear hres hbad hnone hsome
    have heb : (oe != 0) = true := by simp [he]
    clear he
    go_enter Tryz.func127, Tryz.ntmps127
    go_wp2_with fail
    refine HOF.out.mono ?_
    rintro e w1 ⟨rfl, hB1⟩
    go_wp2_with fail
    go_ret3
    show FieldsPost w (fieldsR k s.data.toList ws) _ _
    rw [HRES.out]
    exact ⟨_, rfl, World.ownsRow_nil _ _ _ _, hB1⟩
end Go.Proofs.YtkjihmlighigjaaGreat

namespace Go.Proofs.YtkjihmlighigjaaGreat
open Go.ChangeShapes Go.WideShapes Go.ChangeAt Go.RowKit Go.Joins Go.Deep
open Go.ChangeMaps (open_string shut_string)

section
variable {H : Type} {enc : TypeId × Value → H} {P : Program} {w : World} {base : Nat} {spare : Nat → Bool} {held : Bool}

end
end Go.Proofs.YtkjihmlighigjaaGreat

namespace Go.Proofs.YtkjihmlighigjaaGreat
open Go.ChangeShapes Go.WideShapes Go.ChangeAt Go.RowKit Go.Joins Go.Deep

section
variable {H : Type} {enc : TypeId × Value → H} {P : Program} {w : World} {base : Nat} {spare : Nat → Bool} {held : Bool}
end

end Go.Proofs.YtkjihmlighigjaaGreat

namespace Go.Proofs.YtkjihmlighigjaaGreat
open Go.ChangeShapes Go.WideShapes Go.ChangeAt Go.RowKit Go.Joins Go.Deep

end Go.Proofs.YtkjihmlighigjaaGreat

namespace Go.Proofs.YtkjihmlighigjaaGreat
open Go.RowKit

def upB (l : List Int) : Prop := ∀ t (h : t + 1 < l.length), l[t] ≤ l[t + 1]

set_option maxHeartbeats 1000000 in
theorem within_any (A : Option Addr) (c : Nat) (l : List Int) (b : Bool) (w : World) (hl : l.length ≤ 1000000) (hb : b = true ↔ upB l) (hr : Reads w w.heap.size 1 A l.length (icells l)) :
    Calls Tryz.prog 97 #[.slice A l.length c] w fun e w' => e = .returned (.bool b) ∧ Below w.heap.size w w' := by
  have HR := Lib.hid hr; clear hr
  have HB := Lib.hid hb; clear hb
  go_enter Tryz.func97, Tryz.ntmps97
  go_wp2_with fail
  go_loopg [3] l.length (fun k i wr => ∃ j : Nat, j ≤ l.length ∧ k = l.length - j ∧ i = .int .i64 ((j + 1 : Nat) : Int) ∧ (∀ t (h : t + 1 < l.length), t < j → l[t] ≤ l[t + 1]) ∧ Below w.heap.size w wr)
  case atStart => exact ⟨0, by omega, rfl, rfl, fun t _ h => absurd h (by omega), Below.refl _ _⟩
  case round =>
    obtain ⟨j, hj, rfl, rfl, hup, hB⟩ := hrel
    have HU := Lib.hid hup; clear hup
    by_cases hlt : j + 1 < l.length
    · obtain ⟨ad, rfl, _, hc1⟩ := (HR.out.below hB).cell_ hlt (icells_get l (j + 1) hlt)
      obtain ⟨ad', e', _, hc0⟩ := (HR.out.below hB).cell_ (show j < l.length by omega) (icells_get l j (by omega))
      injection e' with e'
      subst e'
      obtain ⟨x, hx⟩ : ∃ x, l[j]'(by omega) = x := ⟨_, rfl⟩
      obtain ⟨y, hy⟩ : ∃ y, l[j + 1] = y := ⟨_, rfl⟩
      rw [hx] at hc0
      rw [hy] at hc1
      have HX := Lib.hid hx; clear hx
      have HY := Lib.hid hy; clear hy
      have hc1' : wr.cell? ⟨ad.block, ad.off + (j + 1), none⟩ = some (.int .i64 y) := by simpa [Addr.add] using hc1
      have hwj : IntKind.i64.wrap (j : Int) = (j : Int) := wrap_i64_nat j (by omega)
      have hi1 : (0 : Int) ≤ (j : Int) := by omega
      have hi2 : (j : Int) < (l.length : Int) := by omega
      have hi3 : (0 : Int) ≤ (j : Int) + 1 := by omega
      have hi4 : (j : Int) + 1 < (l.length : Int) := by omega
      have hi5 : ((j : Int) + 1).toNat = j + 1 := by omega
      by_cases hle : x ≤ y
      · have hd : decide (y < x) = false := by simp; omega
        go_wp2_with fail
        go_quiet (fail)
        clear hwj hi5
        go_wp2_with fail
        go_roundg (l.length - (j + 1))
        case rel =>
          refine ⟨j + 1, by omega, rfl, by go_num, fun t h ht => ?_, below_drewN hB _⟩
          rcases Nat.lt_or_ge t j with h1 | h1
          · exact HU.out t h h1
          · obtain rfl : t = j := by omega
            rw [HX.out, HY.out]; exact hle
        case measure => omega
      · have hd : decide (y < x) = true := by simp; omega
        have hbf : b = false := by
          cases b with
          | false => rfl
          | true => exact absurd (by have := HB.out.1 rfl j hlt; rwa [HX.out, HY.out] at this) hle
        have HBF := Lib.hid hbf; clear hbf
        go_wp2_with fail
        go_quiet (fail)
        clear hwj hi5
        go_wp2_with fail
        go_ret
        exact ⟨by rw [HBF.out]; rfl, below_drewN hB _⟩
    · have hbt : b = true := HB.out.2 (fun t h => HU.out t h (by omega))
      have HBT := Lib.hid hbt; clear hbt
      go_wp2_with fail
      go_ret
      exact ⟨by rw [HBT.out]; rfl, hB⟩

theorem up3 (a b c : Int) : decide (a ≤ b ∧ b ≤ c) = true ↔ upB [a, b, c] := by
  rw [decide_eq_true_eq]
  constructor
  · rintro ⟨h1, h2⟩ t h
    match t, h with
    | 0, _ => exact h1
    | 1, _ => exact h2
  · intro h
    exact ⟨h 0 (by simp), h 1 (by simp)⟩
theorem up4 (a b c d : Int) : decide (a ≤ b ∧ b ≤ c ∧ c ≤ d) = true ↔ upB [a, b, c, d] := by
  rw [decide_eq_true_eq]
  constructor
  · rintro ⟨h1, h2, h3⟩ t h
    match t, h with
    | 0, _ => exact h1
    | 1, _ => exact h2
    | 2, _ => exact h3
  · intro h
    exact ⟨h 0 (by simp), h 1 (by simp), h 2 (by simp)⟩
theorem within3 (g c : Nat) (x y z : Int) (w : World) (hb : Blk w g 3 #[.int .i64 x, .int .i64 y, .int .i64 z]) :
    Calls Tryz.prog 97 #[.slice (some ⟨g, 0, none⟩) 3 c] w fun e w' => e = .returned (.bool (decide (x ≤ y ∧ y ≤ z))) ∧ Below w.heap.size w w' :=
  within_any _ c [x, y, z] _ w (by simp) (up3 x y z) (reads_blk hb rfl rfl)
theorem within4 (g c : Nat) (x y z u : Int) (w : World) (hb : Blk w g 3 #[.int .i64 x, .int .i64 y, .int .i64 z, .int .i64 u]) :
    Calls Tryz.prog 97 #[.slice (some ⟨g, 0, none⟩) 4 c] w fun e w' => e = .returned (.bool (decide (x ≤ y ∧ y ≤ z ∧ z ≤ u))) ∧ Below w.heap.size w w' :=
  within_any _ c [x, y, z, u] _ w (by simp) (up4 x y z u) (reads_blk hb rfl rfl)
end Go.Proofs.YtkjihmlighigjaaGreat

namespace Go.Proofs.YtkjihmlighigjaaGreat
open Go.RowKit

theorem Blk.cells8 {w : World} {g : Nat} {t : TypeId} {a0 a1 a2 a3 a4 a5 a6 a7 : Value} (h : Blk w g t #[a0, a1, a2, a3, a4, a5, a6, a7]) :
    w.cell? ⟨g, 0, none⟩ = some a0 ∧ w.cell? ⟨g, 1, none⟩ = some a1 ∧ w.cell? ⟨g, 2, none⟩ = some a2 ∧ w.cell? ⟨g, 3, none⟩ = some a3 ∧ w.cell? ⟨g, 4, none⟩ = some a4 ∧ w.cell? ⟨g, 5, none⟩ = some a5 ∧ w.cell? ⟨g, 6, none⟩ = some a6 ∧ w.cell? ⟨g, 7, none⟩ = some a7 :=
  ⟨h.cell 0, h.cell 1, h.cell 2, h.cell 3, h.cell 4, h.cell 5, h.cell 6, h.cell 7⟩
theorem below2 (w : World) (o o' : Obj) : Below w.heap.size w ((w.alloc o).alloc o') := ((Below.refl _ _).alloc (Nat.le_refl _) o).alloc (by simp) o'

set_option maxHeartbeats 4000000 in
set_option maxRecDepth 100000 in
theorem May_any (g : Geo) (w : World) (hw1 : -9223372036854775808 ≤ g.wait) (hw2 : g.wait ≤ 9223372036854775807) :
    Calls Tryz.prog 51 #[g.v] w fun e w' => e = .returned (.bool g.may) ∧ Below w.heap.size w w' := by
  obtain ⟨n, s, b, p, j, l, le, wt⟩ := g
  dsimp only at hw1 hw2
  have hm : Geo.may ⟨n, s, b, p, j, l, le, wt⟩ = decide ((1 ≤ s ∧ s ≤ n ∧ n ≤ 16) ∧ (1 ≤ b ∧ b ≤ 64) ∧ (1 ≤ p ∧ p ≤ 8) ∧ (p + 2 ≤ j ∧ j ≤ 64) ∧ (8 * s ≤ l ∧ l ≤ 512) ∧ (1 ≤ le ∧ le ≤ wt - 1 ∧ wt - 1 ≤ 1048575)) := by
    unfold Geo.may
    rw [decide_eq_decide]
    dsimp only
    omega
  rw [hm]
  have HM := Lib.hid hm; clear hm
  go_enter Tryz.func51, Tryz.ntmps51
  go_wp2_with fail
  have HG0 : Hid (Blk ((w.alloc (Obj.cells #[.int .i64 n, .int .i64 s, .int .i64 b, .int .i64 p, .int .i64 j, .int .i64 l, .int .i64 le, .int .i64 wt] 23)).alloc (Obj.cells #[.int .i64 1, .int .i64 s, .int .i64 n, .int .i64 16] 3)) w.heap.size 23 #[.int .i64 n, .int .i64 s, .int .i64 b, .int .i64 p, .int .i64 j, .int .i64 l, .int .i64 le, .int .i64 wt]) := (Blk.new w _ _).alloc _
  have HB0 : Hid (Below w.heap.size w ((w.alloc (Obj.cells #[.int .i64 n, .int .i64 s, .int .i64 b, .int .i64 p, .int .i64 j, .int .i64 l, .int .i64 le, .int .i64 wt] 23)).alloc (Obj.cells #[.int .i64 1, .int .i64 s, .int .i64 n, .int .i64 16] 3))) := below2 _ _ _
  have hs0 : Blk ((w.alloc (Obj.cells #[.int .i64 n, .int .i64 s, .int .i64 b, .int .i64 p, .int .i64 j, .int .i64 l, .int .i64 le, .int .i64 wt] 23)).alloc (Obj.cells #[.int .i64 1, .int .i64 s, .int .i64 n, .int .i64 16] 3)) (w.heap.size + 1) 3 #[.int .i64 1, .int .i64 s, .int .i64 n, .int .i64 16] := by
    have h := Blk.new (w.alloc (Obj.cells #[.int .i64 n, .int .i64 s, .int .i64 b, .int .i64 p, .int .i64 j, .int .i64 l, .int .i64 le, .int .i64 wt] 23)) 3 #[.int .i64 1, .int .i64 s, .int .i64 n, .int .i64 16]
    rwa [show (w.alloc (Obj.cells #[.int .i64 n, .int .i64 s, .int .i64 b, .int .i64 p, .int .i64 j, .int .i64 l, .int .i64 le, .int .i64 wt] 23)).heap.size = w.heap.size + 1 by simp] at h
  refine (within4 _ _ 1 s n 16 _ hs0).mono ?_
  rintro e w1 ⟨rfl, hB1⟩
  have hbG := HG0.out.below hB1 HG0.out.lt
  have hB := below_step HB0.out hB1 HB0.out.size
  clear hB1 HG0 HB0
  obtain ⟨g0, g1, g2, g3, g4, g5, g6, g7⟩ := hbG.cells8
  have HG := Lib.hid hbG; clear hbG
  have HB := Lib.hid hB; clear hB
  by_cases c0 : 1 ≤ s ∧ s ≤ n ∧ n ≤ 16
  case neg =>
    have hf : decide ((1 ≤ s ∧ s ≤ n ∧ n ≤ 16) ∧ (1 ≤ b ∧ b ≤ 64) ∧ (1 ≤ p ∧ p ≤ 8) ∧ (p + 2 ≤ j ∧ j ≤ 64) ∧ (8 * s ≤ l ∧ l ≤ 512) ∧ (1 ≤ le ∧ le ≤ wt - 1 ∧ wt - 1 ≤ 1048575)) = false := decide_eq_false (fun h => c0 h.1)
    have HF := Lib.hid hf; clear hf
    have hd : decide (1 ≤ s ∧ s ≤ n ∧ n ≤ 16) = false := decide_eq_false c0
    generalize decide (1 ≤ s ∧ s ≤ n ∧ n ≤ 16) = bb at *
    subst hd
    clear c0
    go_wp2_with fail
    go_ret
    exact ⟨by rw [HF.out]; rfl, HB.out⟩
  rw [decide_eq_true c0]
  go_wp2_with fail
  have HG0 : Hid (Blk (w1.alloc (Obj.cells #[.int .i64 1, .int .i64 b, .int .i64 64] 3)) w.heap.size 23 #[.int .i64 n, .int .i64 s, .int .i64 b, .int .i64 p, .int .i64 j, .int .i64 l, .int .i64 le, .int .i64 wt]) := HG.out.alloc _
  have HB0 : Hid (Below w.heap.size w (w1.alloc (Obj.cells #[.int .i64 1, .int .i64 b, .int .i64 64] 3))) := HB.out.alloc HB.out.size _
  clear HG HB g0 g1 g2 g3 g4 g5 g6 g7
  refine (within3 _ _ 1 b 64 _ (Blk.new w1 _ _)).mono ?_
  rintro e w2 ⟨rfl, hB1⟩
  have hbG := HG0.out.below hB1 HG0.out.lt
  have hB := below_step HB0.out hB1 HB0.out.size
  clear hB1 HG0 HB0
  obtain ⟨g0, g1, g2, g3, g4, g5, g6, g7⟩ := hbG.cells8
  have HG := Lib.hid hbG; clear hbG
  have HB := Lib.hid hB; clear hB
  by_cases c1 : 1 ≤ b ∧ b ≤ 64
  case neg =>
    have hf : decide ((1 ≤ s ∧ s ≤ n ∧ n ≤ 16) ∧ (1 ≤ b ∧ b ≤ 64) ∧ (1 ≤ p ∧ p ≤ 8) ∧ (p + 2 ≤ j ∧ j ≤ 64) ∧ (8 * s ≤ l ∧ l ≤ 512) ∧ (1 ≤ le ∧ le ≤ wt - 1 ∧ wt - 1 ≤ 1048575)) = false := decide_eq_false (fun h => c1 h.2.1)
    have HF := Lib.hid hf; clear hf
    have hd : decide (1 ≤ b ∧ b ≤ 64) = false := decide_eq_false c1
    generalize decide (1 ≤ b ∧ b ≤ 64) = bb at *
    subst hd
    clear c1
    go_wp2_with fail
    go_ret
    exact ⟨by rw [HF.out]; rfl, HB.out⟩
  rw [decide_eq_true c1]
  go_wp2_with fail
  have HG0 : Hid (Blk (w2.alloc (Obj.cells #[.int .i64 1, .int .i64 p, .int .i64 8] 3)) w.heap.size 23 #[.int .i64 n, .int .i64 s, .int .i64 b, .int .i64 p, .int .i64 j, .int .i64 l, .int .i64 le, .int .i64 wt]) := HG.out.alloc _
  have HB0 : Hid (Below w.heap.size w (w2.alloc (Obj.cells #[.int .i64 1, .int .i64 p, .int .i64 8] 3))) := HB.out.alloc HB.out.size _
  clear HG HB g0 g1 g2 g3 g4 g5 g6 g7
  refine (within3 _ _ 1 p 8 _ (Blk.new w2 _ _)).mono ?_
  rintro e w3 ⟨rfl, hB1⟩
  have hbG := HG0.out.below hB1 HG0.out.lt
  have hB := below_step HB0.out hB1 HB0.out.size
  clear hB1 HG0 HB0
  obtain ⟨g0, g1, g2, g3, g4, g5, g6, g7⟩ := hbG.cells8
  have HG := Lib.hid hbG; clear hbG
  have HB := Lib.hid hB; clear hB
  by_cases c2 : 1 ≤ p ∧ p ≤ 8
  case neg =>
    have hf : decide ((1 ≤ s ∧ s ≤ n ∧ n ≤ 16) ∧ (1 ≤ b ∧ b ≤ 64) ∧ (1 ≤ p ∧ p ≤ 8) ∧ (p + 2 ≤ j ∧ j ≤ 64) ∧ (8 * s ≤ l ∧ l ≤ 512) ∧ (1 ≤ le ∧ le ≤ wt - 1 ∧ wt - 1 ≤ 1048575)) = false := decide_eq_false (fun h => c2 h.2.2.1)
    have HF := Lib.hid hf; clear hf
    have hd : decide (1 ≤ p ∧ p ≤ 8) = false := decide_eq_false c2
    generalize decide (1 ≤ p ∧ p ≤ 8) = bb at *
    subst hd
    clear c2
    go_wp2_with fail
    go_ret
    exact ⟨by rw [HF.out]; rfl, HB.out⟩
  rw [decide_eq_true c2]
  go_wp2_with fail
  have HG0 : Hid (Blk (w3.alloc (Obj.cells #[.int .i64 (p + 2), .int .i64 j, .int .i64 64] 3)) w.heap.size 23 #[.int .i64 n, .int .i64 s, .int .i64 b, .int .i64 p, .int .i64 j, .int .i64 l, .int .i64 le, .int .i64 wt]) := HG.out.alloc _
  have HB0 : Hid (Below w.heap.size w (w3.alloc (Obj.cells #[.int .i64 (p + 2), .int .i64 j, .int .i64 64] 3))) := HB.out.alloc HB.out.size _
  clear HG HB g0 g1 g2 g3 g4 g5 g6 g7
  refine (within3 _ _ (p + 2) j 64 _ (Blk.new w3 _ _)).mono ?_
  rintro e w4 ⟨rfl, hB1⟩
  have hbG := HG0.out.below hB1 HG0.out.lt
  have hB := below_step HB0.out hB1 HB0.out.size
  clear hB1 HG0 HB0
  obtain ⟨g0, g1, g2, g3, g4, g5, g6, g7⟩ := hbG.cells8
  have HG := Lib.hid hbG; clear hbG
  have HB := Lib.hid hB; clear hB
  by_cases c3 : p + 2 ≤ j ∧ j ≤ 64
  case neg =>
    have hf : decide ((1 ≤ s ∧ s ≤ n ∧ n ≤ 16) ∧ (1 ≤ b ∧ b ≤ 64) ∧ (1 ≤ p ∧ p ≤ 8) ∧ (p + 2 ≤ j ∧ j ≤ 64) ∧ (8 * s ≤ l ∧ l ≤ 512) ∧ (1 ≤ le ∧ le ≤ wt - 1 ∧ wt - 1 ≤ 1048575)) = false := decide_eq_false (fun h => c3 h.2.2.2.1)
    have HF := Lib.hid hf; clear hf
    have hd : decide (p + 2 ≤ j ∧ j ≤ 64) = false := decide_eq_false c3
    generalize decide (p + 2 ≤ j ∧ j ≤ 64) = bb at *
    subst hd
    clear c3
    go_wp2_with fail
    go_ret
    exact ⟨by rw [HF.out]; rfl, HB.out⟩
  rw [decide_eq_true c3]
  go_wp2_with fail
  have HG0 : Hid (Blk (w4.alloc (Obj.cells #[.int .i64 (8 * s), .int .i64 l, .int .i64 512] 3)) w.heap.size 23 #[.int .i64 n, .int .i64 s, .int .i64 b, .int .i64 p, .int .i64 j, .int .i64 l, .int .i64 le, .int .i64 wt]) := HG.out.alloc _
  have HB0 : Hid (Below w.heap.size w (w4.alloc (Obj.cells #[.int .i64 (8 * s), .int .i64 l, .int .i64 512] 3))) := HB.out.alloc HB.out.size _
  clear HG HB g0 g1 g2 g3 g4 g5 g6 g7
  refine (within3 _ _ (8 * s) l 512 _ (Blk.new w4 _ _)).mono ?_
  rintro e w5 ⟨rfl, hB1⟩
  have hbG := HG0.out.below hB1 HG0.out.lt
  have hB := below_step HB0.out hB1 HB0.out.size
  clear hB1 HG0 HB0
  obtain ⟨g0, g1, g2, g3, g4, g5, g6, g7⟩ := hbG.cells8
  have HG := Lib.hid hbG; clear hbG
  have HB := Lib.hid hB; clear hB
  by_cases c4 : 8 * s ≤ l ∧ l ≤ 512
  case neg =>
    have hf : decide ((1 ≤ s ∧ s ≤ n ∧ n ≤ 16) ∧ (1 ≤ b ∧ b ≤ 64) ∧ (1 ≤ p ∧ p ≤ 8) ∧ (p + 2 ≤ j ∧ j ≤ 64) ∧ (8 * s ≤ l ∧ l ≤ 512) ∧ (1 ≤ le ∧ le ≤ wt - 1 ∧ wt - 1 ≤ 1048575)) = false := decide_eq_false (fun h => c4 h.2.2.2.2.1)
    have HF := Lib.hid hf; clear hf
    have hd : decide (8 * s ≤ l ∧ l ≤ 512) = false := decide_eq_false c4
    generalize decide (8 * s ≤ l ∧ l ≤ 512) = bb at *
    subst hd
    clear c4
    go_wp2_with fail
    go_ret
    exact ⟨by rw [HF.out]; rfl, HB.out⟩
  rw [decide_eq_true c4]
  rcases Int.lt_or_eq_of_le hw1 with hw1 | hw1
  case inr =>
    have hf : decide ((1 ≤ s ∧ s ≤ n ∧ n ≤ 16) ∧ (1 ≤ b ∧ b ≤ 64) ∧ (1 ≤ p ∧ p ≤ 8) ∧ (p + 2 ≤ j ∧ j ≤ 64) ∧ (8 * s ≤ l ∧ l ≤ 512) ∧ (1 ≤ le ∧ le ≤ wt - 1 ∧ wt - 1 ≤ 1048575)) = false := decide_eq_false (fun h => by omega)
    have HF := Lib.hid hf; clear hf
    subst hw1
    go_wp2_with fail
    rw [show wrap64 (-9223372036854775809) = 9223372036854775807 from by decide +kernel]
    have HB0 : Hid (Below w.heap.size w (w5.alloc (Obj.cells #[.int .i64 1, .int .i64 le, .int .i64 9223372036854775807, .int .i64 1048575] 3))) := HB.out.alloc HB.out.size _
    clear HG HB g0 g1 g2 g3 g4 g5 g6 g7
    refine (within4 _ _ 1 le 9223372036854775807 1048575 _ (Blk.new w5 _ _)).mono ?_
    rintro e w6 ⟨rfl, hB1⟩
    have hB := below_step HB0.out hB1 HB0.out.size
    clear hB1 HB0
    have hd : decide ((1 : Int) ≤ le ∧ le ≤ 9223372036854775807 ∧ (9223372036854775807 : Int) ≤ 1048575) = false := decide_eq_false (fun h => by omega)
    rw [hd]
    clear hd
    have HB := Lib.hid hB; clear hB
    go_wp2_with fail
    go_ret
    exact ⟨by rw [HF.out]; rfl, HB.out⟩
  go_wp2_with fail
  have HG0 : Hid (Blk (w5.alloc (Obj.cells #[.int .i64 1, .int .i64 le, .int .i64 (wt - 1), .int .i64 1048575] 3)) w.heap.size 23 #[.int .i64 n, .int .i64 s, .int .i64 b, .int .i64 p, .int .i64 j, .int .i64 l, .int .i64 le, .int .i64 wt]) := HG.out.alloc _
  have HB0 : Hid (Below w.heap.size w (w5.alloc (Obj.cells #[.int .i64 1, .int .i64 le, .int .i64 (wt - 1), .int .i64 1048575] 3))) := HB.out.alloc HB.out.size _
  clear HG HB g0 g1 g2 g3 g4 g5 g6 g7
  refine (within4 _ _ 1 le (wt - 1) 1048575 _ (Blk.new w5 _ _)).mono ?_
  rintro e w6 ⟨rfl, hB1⟩
  have hbG := HG0.out.below hB1 HG0.out.lt
  have hB := below_step HB0.out hB1 HB0.out.size
  clear hB1 HG0 HB0
  obtain ⟨g0, g1, g2, g3, g4, g5, g6, g7⟩ := hbG.cells8
  have HG := Lib.hid hbG; clear hbG
  have HB := Lib.hid hB; clear hB
  by_cases c5 : 1 ≤ le ∧ le ≤ wt - 1 ∧ wt - 1 ≤ 1048575
  case neg =>
    have hf : decide ((1 ≤ s ∧ s ≤ n ∧ n ≤ 16) ∧ (1 ≤ b ∧ b ≤ 64) ∧ (1 ≤ p ∧ p ≤ 8) ∧ (p + 2 ≤ j ∧ j ≤ 64) ∧ (8 * s ≤ l ∧ l ≤ 512) ∧ (1 ≤ le ∧ le ≤ wt - 1 ∧ wt - 1 ≤ 1048575)) = false := decide_eq_false (fun h => c5 h.2.2.2.2.2)
    have HF := Lib.hid hf; clear hf
    have hd : decide (1 ≤ le ∧ le ≤ wt - 1 ∧ wt - 1 ≤ 1048575) = false := decide_eq_false c5
    generalize decide (1 ≤ le ∧ le ≤ wt - 1 ∧ wt - 1 ≤ 1048575) = bb at *
    subst hd
    clear c5
    go_wp2_with fail
    go_ret
    exact ⟨by rw [HF.out]; rfl, HB.out⟩
  rw [decide_eq_true c5]
  go_wp2_with fail
  go_ret
  exact ⟨by rw [decide_eq_true ⟨c0, c1, c2, c3, c4, c5⟩]; rfl, HB.out⟩
end Go.Proofs.YtkjihmlighigjaaGreat

namespace Go.Proofs.YtkjihmlighigjaaGreat
open Go.RowKit

end Go.Proofs.YtkjihmlighigjaaGreat

namespace Go.Proofs.YtkjihmlighigjaaGreat
open Go.RowKit

end Go.Proofs.YtkjihmlighigjaaGreat

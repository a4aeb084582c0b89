/- The walks of bytes.put, sealed, Seal. -/
import Derived.Test.YtfonaceldfjneaaPut2
import Derived.Test.YtfonaceldfjneaaCrc
import Derived.Test.YtfonaceldfjneaaWords2
import Derived.Test.YtfonaceldfjneaaSealPlain
namespace Go.Proofs.Ytfonaceldfjneaa
open Go.RowKit

/-- a sector struct in memory: its bytes' slice, its error, its kind -/
abbrev Sect (w : World) (g : Nat) (v : Value) (e k : Int) : Prop := Blk w g 111 #[v, .int .i64 e, .int .i8 k]

def SPutPost (w : World) (g : Nat) (v0 : Value) (e0 k : Int) : Option Bs → World → Prop
  | some x, w' => ∃ v, Sect w' g v e0 k ∧ w'.ownsRow w.heap.size 5 1 v x.length (bcells x) ∧ w.grownBy w' (some g)
  | none, w' => Sect w' g v0 2 k ∧ w.grownBy w' (some g)

theorem grown_below_set {w w1 : World} {g : Nat} (hb : Below w.heap.size w w1) (p : Addr) (hp : p.block = g) (u : Value) : w.grownBy (w1.setCell p u) (some g) :=
  only_setCell (only_of_below hb (some g)) (.inl hp) u

set_option maxHeartbeats 400000 in
theorem sput_any (g : Nat) (Ab Al : Option Addr) (cb cl : Nat) (e0 k n : Int) (b : Bs) (l : List Int) (w : World) (hbd : b.length + 6 * l.length ≤ 1000000000)
    (hs : Sect w g (.slice Ab b.length cb) e0 k)
    (hb : Reads w w.heap.size 1 Ab b.length (bcells b)) (hl : Reads w w.heap.size 1 Al l.length (icells l)) :
    Calls Try.prog 60 #[.pointer (some ⟨g, 0, none⟩), .int .i64 n, .slice Al l.length cl] w fun e w' => e = .returned (.tuple #[]) ∧ SPutPost w g (.slice Ab b.length cb) e0 k (putS b n l) w' := by
  have c0 : w.cell? ⟨g, 0, none⟩ = some (.slice Ab b.length cb) := by rw [hs.cell 0]; rfl
  have HS := Lib.hid hs; clear hs
  have HB := Lib.hid hb; clear hb
  have HL := Lib.hid hl; clear hl
  have hput := Put_any Ab Al cb cl n b l w hbd HB.out HL.out
  have HP := Lib.hid hput; clear hput
  have hglt : g < w.heap.size := HS.out.lt
  go_enter Try.func60, Try.ntmps60
  go_wp2_with fail
  refine HP.out.mono ?_
  intro e w1 hpost
  generalize hr : putS b n l = r at *
  cases r with
  | none =>
    obtain ⟨rfl, hB⟩ := hpost
    have HR := Lib.hid hr; clear hr HP
    have hs1 : Sect w1 g (.slice Ab b.length cb) e0 k := HS.out.below hB hglt
    have c1 : w1.cell? ⟨g, 1, none⟩ = some (.int .i64 e0) := by rw [hs1.cell 1]; rfl
    have f1 := hs1.frozen 1
    have HS1 := Lib.hid hs1; clear hs1
    go_wp2
    refine bodyPost_ret (results_none rfl _ _ _) rfl ?_
    refine ⟨rfl, ?_⟩
    show SPutPost w g (.slice Ab b.length cb) e0 k (putS b n l) _
    rw [HR.out]
    exact ⟨HS1.out.set_ 1 _, grown_below_set hB _ rfl _⟩
  | some x =>
    obtain ⟨v, rfl, hown, hB⟩ := hpost
    have HR := Lib.hid hr; clear hr HP
    have hs1 : Sect w1 g (.slice Ab b.length cb) e0 k := HS.out.below hB hglt
    have c1 : w1.cell? ⟨g, 0, none⟩ = some (.slice Ab b.length cb) := by rw [hs1.cell 0]; rfl
    have f1 := hs1.frozen 0
    have HS1 := Lib.hid hs1; clear hs1
    obtain ⟨A1, c2, rfl, hc2, hm2, hr2⟩ := own_reads hown
    have HO := Lib.hid hown; clear hown hr2
    go_wp2
    go_end0
    refine ⟨rfl, ?_⟩
    show SPutPost w g (.slice Ab b.length cb) e0 k (putS b n l) _
    rw [HR.out]
    exact ⟨_, HS1.out.set_ 0 _, ownsRow_setCell_below HO.out (a := ⟨g, 0, none⟩) hglt _, grown_below_set hB _ rfl _⟩

theorem putS_one {b : Bs} {wd n : Nat} (h1 : 1 ≤ wd) (h2 : wd ≤ 6) (hn : n ≤ mostW wd) : putS b wd [(n : Int)] = some (b ++ leBytes wd n) := by
  rw [putS_ok h1 h2]
  · simp [putAll]
  · intro j hj
    obtain rfl : j = 0 := by simp at hj; exact hj
    refine decide_eq_true ⟨by omega, by omega, by simp, ?_⟩
    simp; omega

set_option maxHeartbeats 1000000 in
set_option maxRecDepth 100000 in
theorem sealed_ok (g : Nat) (A : Option Addr) (n c : Nat) (q : UInt8) (s : ByteArray) (w : World) (hq : 1 ≤ q.toNat) (hq2 : q.toNat ≤ 127) (hl : s.size ≤ 505)
    (hs : Sect w g (.slice A n c) 0 q.toNat) :
    Calls Try.prog 61 #[.pointer (some ⟨g, 0, none⟩), .string s] w fun e w' =>
      e = .returned (.tuple #[.string (mkS (sealHead q.toNat s.data.toList ++ leBytes 4 (crcSum (sealHead q.toNat s.data.toList)))), .int .i64 0]) ∧ w.grownBy w' (some g) := by
  obtain ⟨i0, hi0, hz0, hz1, hz2⟩ := info_parts u8_info
  have c0 : w.cell? ⟨g, 0, none⟩ = some (.slice A n c) := by rw [hs.cell 0]; rfl
  have c1 : w.cell? ⟨g, 1, none⟩ = some (.int .i64 0) := by rw [hs.cell 1]; rfl
  have c2 : w.cell? ⟨g, 2, none⟩ = some (.int .i8 q.toNat) := by rw [hs.cell 2]; rfl
  have f0 := hs.frozen 0
  have hglt : g < w.heap.size := hs.lt
  have HS := Lib.hid hs; clear hs
  have hkw : IntKind.u8.wrap (q.toNat : Int) = q.toNat := by rw [IntKind.wrap_u8']; omega
  have hb1 : decide ((q.toNat : Int) < 1) = false := by simp; omega
  have hb2 : decide ((505 : Int) < (s.size : Int)) = false := by simp; omega
  have hhd : [q] ++ leBytes 2 s.size ++ s.data.toList = sealHead q.toNat s.data.toList := by simp [sealHead]
  have hhl : (sealHead q.toNat s.data.toList).length ≤ 508 := by rw [sealHead_length]; simp; omega
  generalize sealHead q.toNat s.data.toList = hd at *
  have HH := Lib.hid hhd; clear hhd
  go_enter Try.func61, Try.ntmps61
  go_wp2_with fail
  have hW0 : w.grownBy (((w.setCell ⟨g, 0, none⟩ (Value.slice (some ⟨w.heap.size, 0, none⟩) 1 1)).alloc (Obj.cells #[Value.int IntKind.u8 q.toNat] 5)).alloc (Obj.cells #[Value.int IntKind.i64 s.size] 3)) (some g) :=
    only_alloc (only_alloc (only_setCell (World.grownBy.refl _ _) (.inl rfl) _) _) _
  refine (sput_any g (some ⟨w.heap.size, 0, none⟩) (some ⟨w.heap.size + 1, 0, none⟩) 1 1 0 q.toNat 2 [q] [(s.size : Int)] _ (by simp) ?h1 ?h2 ?h3).mono ?_
  case h1 => exact ((HS.out.set_ 0 _).alloc _).alloc _
  case h2 =>
    have h := (Blk.new (w.setCell ⟨g, 0, none⟩ (Value.slice (some ⟨w.heap.size, 0, none⟩) 1 1)) 5 #[Value.int IntKind.u8 q.toNat]).alloc (Obj.cells #[Value.int IntKind.i64 s.size] 3)
    rw [show (w.setCell ⟨g, 0, none⟩ (Value.slice (some ⟨w.heap.size, 0, none⟩) 1 1)).heap.size = w.heap.size by simp [World.setCell]] at h
    exact reads_blk h rfl rfl
  case h3 =>
    have h := Blk.new ((w.setCell ⟨g, 0, none⟩ (Value.slice (some ⟨w.heap.size, 0, none⟩) 1 1)).alloc (Obj.cells #[Value.int IntKind.u8 q.toNat] 5)) 3 #[Value.int IntKind.i64 s.size]
    rw [show ((w.setCell ⟨g, 0, none⟩ (Value.slice (some ⟨w.heap.size, 0, none⟩) 1 1)).alloc (Obj.cells #[Value.int IntKind.u8 q.toNat] 5)).heap.size = w.heap.size + 1 by simp [World.setCell]] at h
    exact reads_blk h rfl rfl
  rw [show putS [q] (2 : Int) [(s.size : Int)] = some ([q] ++ leBytes 2 s.size) from putS_one (wd := 2) (by omega) (by omega) (by simp [mostW]; omega)]
  rintro e w1 ⟨rfl, v1, hs1, hown1, hg1⟩
  have hB1 := only_trans hW0 hg1
  have hown1' := own_base hown1 (base' := w.heap.size) hW0.size
  have hne1 := own_blk_ne hown1' hs1 (by decide)
  obtain ⟨A1, n1, rfl⟩ : ∃ A1 n1, v1 = .slice A1 3 n1 := by
    obtain ⟨A1, n1, e1, _⟩ := own_reads hown1; exact ⟨A1, n1, by rw [e1]; simp [leBytes_length]⟩
  clear hown1 hg1 hW0 c0 c1 c2 f0
  have d0 : w1.cell? ⟨g, 0, none⟩ = some (.slice A1 3 n1) := by rw [hs1.cell 0]; rfl
  have d2 : w1.frozen? ⟨g, 0, none⟩ = false := hs1.frozen 0
  have HS1 := Lib.hid hs1; clear hs1
  have HN1 := Lib.hid hne1; clear hne1
  have HB1 := Lib.hid hB1; clear hB1
  have hsz : w.heap.size ≤ w1.heap.size := HB1.out.size
  have HO1 := Lib.hid hown1'; clear hown1'
  go_wp2_with (first
    | (at_builtin; go_loud (refine wpList_append_src _ rfl (.tmp 38) (.tmp 39) 80 9 rfl w.heap.size 5 i0 (.int .u8 0) 1 Try.underlying80 hi0 hz0 hz1 hz2 rfl (.slice A1 3 n1) _ _ (by rfl) HO1.out (by simp) (.string s) s.size (byteCells s) (by rfl) (Src.ofString _ Try.underlying9 s) (by simp [leBytes_length, maxLen]; omega) (by simp [leBytes_length]; omega) hsz ?_); intro v2 w2 hown2 hg2 hat2; (have ho2 : w2.ownsRow w.heap.size 5 1 v2 hd.length (bcells hd) := by (rw [← HH.out, bcells_append, List.length_append]; exact hown2)); obtain ⟨A2, n2, rfl, -, -, -⟩ := own_reads ho2; have hs2 := HS1.out.grown hg2 (Ne.symm HN1.out); (have d0' : w2.cell? ⟨g, 0, none⟩ = some (.slice A1 3 n1) := by (rw [hs2.cell 0]; rfl)); have d2' := hs2.frozen 0; have HS2 := Lib.hid hs2; have HO2 := Lib.hid ho2; have HG2 := Lib.hid hg2; clear hs2 hown2 ho2 hg2 hat2 d0 d2))
  have hs3 := HS2.out.set_ 0 (.slice A2 hd.length n2)
  have ho3 := ownsRow_setCell_below HO2.out (a := ⟨g, 0, none⟩) hglt (.slice A2 hd.length n2)
  have hG3 := only_setCell (only_own HB1.out HO1.out (Nat.le_refl _) HG2.out) (p := ⟨g, 0, none⟩) (.inl rfl) (.slice A2 hd.length n2)
  clear HS2 HO2 HG2 HB1 HO1 HN1 HS1 d0' d2' hsz HS
  generalize w2.setCell ⟨g, 0, none⟩ (.slice A2 hd.length n2) = W2 at *
  have d0 : W2.cell? ⟨g, 0, none⟩ = some (.slice A2 hd.length n2) := by rw [hs3.cell 0]; rfl
  have HS3 := Lib.hid hs3.drew; clear hs3
  have HO3 := Lib.hid ho3.drew; clear ho3
  have HG3 := Lib.hid (only_drew hG3); clear hG3
  have hcl := crcSum_lt hd
  have hps : putS hd (4 : Int) [((crcSum hd : Nat) : Int)] = some (hd ++ leBytes 4 (crcSum hd)) := putS_one (wd := 4) (by omega) (by omega) (by simp [mostW]; omega)
  have HPS := Lib.hid hps; clear hps
  go_region_with (first
    | (go_at_call 67; refine (Sum_any A2 n2 hd _ (by omega) (by exact Reads.of_own HO3.out)).mono ?_; rintro e w4 ⟨rfl, hB4⟩; have hG4 := only_below HG3.out hB4; (have hs4 : Sect w4 g (.slice A2 hd.length n2) 0 q.toNat := HS3.out.below hB4 HS3.out.lt); have ho4 := own_below HO3.out hB4; have HS4 := Lib.hid hs4; clear hs4; have HO4 := Lib.hid ho4; clear ho4; have HG4 := Lib.hid hG4; clear hG4 hB4)
    | (go_at_call 60; refine (sput_any g A2 (some ⟨w4.heap.size, 0, none⟩) n2 1 0 q.toNat 4 hd [((crcSum hd : Nat) : Int)] (w4.alloc (Obj.cells #[Value.int IntKind.i64 (crcSum hd)] 3)) (by simp; omega) (by exact HS4.out.alloc _) (by exact Reads.of_own (HO4.out.alloc _)) (by exact reads_blk (Blk.new w4 3 #[Value.int IntKind.i64 (crcSum hd)]) rfl rfl)).mono ?_; rw [HPS.out]; rintro e w5 ⟨rfl, v5, hs5, hown5, hg5⟩))
  have hG5 := only_trans (only_alloc HG4.out _) hg5
  obtain ⟨A5, n5, rfl, -, -, hr5⟩ := own_reads hown5
  have d0 : w5.cell? ⟨g, 0, none⟩ = some (.slice A5 (hd ++ leBytes 4 (crcSum hd)).length n5) := by rw [hs5.cell 0]; rfl
  have d1 : w5.cell? ⟨g, 1, none⟩ = some (.int .i64 0) := by rw [hs5.cell 1]; rfl
  have hconv := fun kk => run_string_of (P := Try.prog) (w5.drewN kk) 80 9 5 Try.underlying80 Try.underlying5 Try.underlying9 w5.heap.size A5 n5 _ (hr5.drewN kk)
  have HG5 := Lib.hid hG5; clear hG5 hg5 hown5 hs5 HS4 HO4 HG4 hr5
  generalize hout : hd ++ leBytes 4 (crcSum hd) = out at *
  have HOUT := Lib.hid hout; clear hout
  go_wp2_with fail
  go_quiet (fail)
  go_wp2
  go_ret2
  exact ⟨by rw [HOUT.out]; rfl, only_drewN HG5.out _⟩

theorem sealed_bad (g : Nat) (v0 : Value) (e0 k : Int) (s : ByteArray) (w : World) (h : ¬ (1 ≤ k ∧ s.size ≤ 505)) (hs : Sect w g v0 e0 k) :
    Calls Try.prog 61 #[.pointer (some ⟨g, 0, none⟩), .string s] w fun e w' =>
      e = .returned (.tuple #[.string (mkS []), .int .i64 2]) ∧ w = w' := by
  have c2 : w.cell? ⟨g, 2, none⟩ = some (.int .i8 k) := by rw [hs.cell 2]; rfl
  clear hs
  by_cases hk : k < 1
  · go_enter Try.func61, Try.ntmps61
    go_wp2
    go_ret2
    exact ⟨rfl, rfl⟩
  · have hl : (505 : Int) < s.size := by omega
    go_enter Try.func61, Try.ntmps61
    go_wp2
    go_ret2
    exact ⟨rfl, rfl⟩

theorem sealed_any (g : Nat) (A : Option Addr) (n c : Nat) (k : Int) (s : ByteArray) (w : World) (hk2 : k ≤ 127) (hs : Sect w g (.slice A n c) 0 k) :
    Calls Try.prog 61 #[.pointer (some ⟨g, 0, none⟩), .string s] w fun e w' =>
      e = .returned (.tuple #[.string (mkS (sealR k s.data.toList).1), .int .i64 (sealR k s.data.toList).2]) ∧ w.grownBy w' (some g) := by
  by_cases h : 1 ≤ k ∧ s.size ≤ 505
  · obtain ⟨q, rfl⟩ : ∃ q : UInt8, k = (q.toNat : Int) := ⟨UInt8.ofNat k.toNat, by simp; omega⟩
    rw [sealR_ok h.1 (by simpa using h.2)]
    exact sealed_ok g A n c q s w (by omega) (by omega) h.2 hs
  · rw [sealR_bad (by simpa using h)]
    exact (sealed_bad g _ 0 k s w h hs).mono fun e w' ⟨h1, h2⟩ => ⟨h1, h2 ▸ World.grownBy.refl _ _⟩

end Go.Proofs.Ytfonaceldfjneaa

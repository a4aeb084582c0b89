/- The walks of ballot: Read; the reference's Read. -/
import Derived.Test.YtkmiknefbbjggaaBallot3
import Derived.Test.YtkmiknefbbjggaaBeatPlain
import Derived.BigRegion
namespace Go.Proofs.Ytkmiknefbbjggaa
open Go.RowKit

/-- a result that is a struct in a block of its own, and another one -/
theorem ret_blk2 {P : Program} {fn : Func} {p t : Tmp} {ty : TypeId} {R : Ending → World → Prop} {a : Act} {w : World} {g : Nat} {cs : Array Value} {d : TypeDesc} (h : fn.results = #[.cell p ty, .tmp t])
    (hp : a.tmps.getD p undef = .pointer (some ⟨g, 0, none⟩)) (hb : Blk w g ty cs) (hu : P.underlying ty = some d) (hd : (match d with | .struct _ | .array _ _ => true | _ => false) = true) (hi : (P.info? ty).map (·.size) = some cs.size)
    (hdf : a.defers = []) (hR : R (.returned (.tuple #[.agg cs, a.tmps.getD t undef])) w) : bodyPost P fn R .ret a w := by
  refine bodyPost_ret (v := .tuple #[.agg cs, a.tmps.getD t undef]) ?_ hdf hR
  have hp' : a.tmps[p]?.getD undef = .pointer (some ⟨g, 0, none⟩) := by simpa using hp
  simp [results, h, hp', asAddr, run_loadVar_row w g ty ty cs (0, 0) d hb hu hd hi]

abbrev recCells (i m b : Int) (v : ByteArray) : Array Value := #[.int .i64 i, .int .i64 m, .int .i64 b, .string v]
/-- what Read answers -/
def readR (s : Bs) : (Int × Int × Int × Bs) × Int :=
  if s = [] then ((0, 0, 0, []), 0) else
  match fieldsR 4 s [2, 6, 6] with
  | ([i, m, b], v, 0) => if mayB i m b v = true then ((i, m, b, v), 0) else ((0, 0, 0, []), 50)
  | _ => ((0, 0, 0, []), 50)
def ReadPost (w : World) (r : (Int × Int × Int × Bs) × Int) (e : Ending) (w' : World) : Prop :=
  e = .returned (.tuple #[recV r.1.1 r.1.2.1 r.1.2.2.1 (mkS r.1.2.2.2), .int .i64 r.2]) ∧ Below w.heap.size w w'
theorem mkS_nil : mkS [] = (⟨#[]⟩ : ByteArray) := rfl
theorem takeF_rest (s : Bs) (ws : List Int) (r : List Int × Bs) (h : takeF s ws = some r) : r.2.length ≤ s.length := (takeF_le s ws r h).1
theorem fieldsR_rest (k : Int) (s : Bs) (ws : List Int) : (fieldsR k s ws).2.1.length ≤ 505 := by
  have hol : (ofR k s).1.length ≤ 505 := by
    unfold ofR
    rcases openR_cases s with h | ⟨k', l, h, _, _, hl, _⟩
    · rw [h]; simp
    · rw [h]; dsimp only; split <;> simp [hl]
  unfold fieldsR
  split
  · cases ht : takeF (ofR k s).1 ws with
    | none => simp
    | some r => have := takeF_rest _ _ _ ht; dsimp only; omega
  · simp

set_option maxHeartbeats 1000000 in
set_option maxRecDepth 100000 in
theorem Read_any (s : ByteArray) (w : World) (hs : s.size ≤ 1000000000) :
    Calls Try.prog 32 #[.string s] w fun e w' => ReadPost w (readR s.data.toList) e w' := by
  have hz0 : Blk (w.alloc (.cells (recCells 0 0 0 ⟨#[]⟩) 55)) w.heap.size 55 (recCells 0 0 0 ⟨#[]⟩) := Blk.new w _ _
  have hB0 : Below w.heap.size w (w.alloc (.cells (recCells 0 0 0 ⟨#[]⟩) 55)) := (Below.refl _ _).alloc (Nat.le_refl _) _
  cases hem : s.data.toList.isEmpty with
  | true =>
    obtain rfl := str_empty hem
    clear hem
    have hr : readR (⟨#[]⟩ : ByteArray).data.toList = ((0, 0, 0, []), 0) := rfl
    rw [hr]
    clear hr
    have HZ := Lib.hid hz0; clear hz0
    have HB := Lib.hid hB0; clear hB0
    go_enter Try.func32, Try.ntmps32
    go_wp2_with fail
    refine ret_blk2 (cs := recCells 0 0 0 ⟨#[]⟩) (g := w.heap.size) rfl rfl ?_ Try.underlying55 rfl (by kernel_rfl) rfl ⟨rfl, ?_⟩
    · first | exact HZ.out | exact (((HZ.out.set_ 0 _).set_ 1 _).set_ 2 _).set_ 3 _
    · first | exact HB.out | exact (((HB.out.setCell (by simp) _).setCell (by simp) _).setCell (by simp) _).setCell (by simp) _
  | false =>
    have he' := str_some hem
    have hne : s.data.toList ≠ [] := by intro h; rw [h] at hem; cases hem
    have hr : readR s.data.toList = match fieldsR 4 s.data.toList [2, 6, 6] with
      | ([i, m, b], v, 0) => if mayB i m b v = true then ((i, m, b, v), 0) else ((0, 0, 0, []), 50)
      | _ => ((0, 0, 0, []), 50) := by rw [readR, if_neg hne]
    clear hem hne
    have hz1 : Blk ((w.alloc (.cells (recCells 0 0 0 ⟨#[]⟩) 55)).alloc (.cells (recCells 0 0 0 ⟨#[]⟩) 87)) (w.heap.size + 1) 87 (recCells 0 0 0 ⟨#[]⟩) := by
      have h := Blk.new (w.alloc (.cells (recCells 0 0 0 ⟨#[]⟩) 55)) 87 (recCells 0 0 0 ⟨#[]⟩)
      simpa using h
    have hf := fun w Aw r => Fields_any 4 s Aw 3 [2, 6, 6] w hs (by simp) r
    have hfr := fieldsR_rest 4 s.data.toList [2, 6, 6]
    have HZ0 := Lib.hid hz0; clear hz0
    have HB0 := Lib.hid hB0; clear hB0
    have HZ1 := Lib.hid hz1; clear hz1
    rcases fieldsR_cases 4 s.data.toList [2, 6, 6] with h | ⟨l, rest, h, hl⟩
    · rw [h] at hf hr
      rw [hr]
      have HF := Lib.hid hf; clear hf h hr hfr
      go_enter Try.func32, Try.ntmps32
      go_wp2_with fail
      refine (widths_post _ _).mono ?_
      rintro e w1 ⟨AW, rfl, hrW, hBW⟩
      have HRW := Lib.hid hrW; clear hrW
      have hz0 := ((HZ0.out.alloc _).below hBW (by simp; omega))
      have HZ0' := Lib.hid hz0; clear hz0
      have HB1 := Lib.hid (below_step (HB0.out.alloc (by simp) _) hBW (by simp; omega)); clear hBW
      go_wp2_with fail
      refine (HF.out _ AW HRW.out).mono ?_
      rintro e w2 ⟨v, rfl, hown, hB⟩
      have hz0 := HZ0'.out.below hB HZ0'.out.lt
      have HZ0'' := Lib.hid hz0
      obtain ⟨c0, c1, c2, c3⟩ := hz0.cells4
      obtain ⟨f0, f1, f2, f3⟩ := hz0.frozen4
      have HB2 := Lib.hid (below_step HB1.out hB HB1.out.size)
      clear hown hB hz0
      go_wp2_with fail
      refine ret_blk2 (cs := recCells 0 0 0 ⟨#[]⟩) (g := w.heap.size) rfl rfl ?_ Try.underlying55 rfl (by kernel_rfl) rfl ⟨rfl, ?_⟩
      · exact (((HZ0''.out.set_ 0 _).set_ 1 _).set_ 2 _).set_ 3 _
      · exact (((HB2.out.setCell (by simp) _).setCell (by simp) _).setCell (by simp) _).setCell (by simp) _
    · obtain ⟨i, m, b, rfl⟩ : ∃ i m b, l = [i, m, b] := by
        match l, hl with
        | [i, m, b], _ => exact ⟨i, m, b, rfl⟩
      rw [h] at hf hr hfr
      dsimp only at hfr hr
      have HF := Lib.hid hf; clear hf h hl
      have HMY := Lib.hid (fun g w => may_rec g i m b (mkS rest) w (by rw [mkS_size]; unfold maxLen; omega))
      rw [mkS_toList] at HMY
      go_enter Try.func32, Try.ntmps32
      go_wp2_with fail
      refine (widths_post _ _).mono ?_
      rintro e w1 ⟨AW, rfl, hrW, hBW⟩
      have HRW := Lib.hid hrW; clear hrW
      have HZ0' := Lib.hid ((HZ0.out.alloc _).below hBW (by simp; omega)); clear HZ0
      have HZ1' := Lib.hid (HZ1.out.below hBW (by simp)); clear HZ1
      have HB1 := Lib.hid (below_step (HB0.out.alloc (by simp) _) hBW (by simp; omega)); clear hBW
      have hsz : w.heap.size + 1 < w1.heap.size := HZ1'.out.lt
      go_wp2_with fail
      refine (HF.out _ AW HRW.out).mono ?_
      rintro e w2 ⟨v, rfl, hown, hB⟩
      dsimp only at hown ⊢
      obtain ⟨gb, cap, rfl, hgb, hlt⟩ := hown.form (by simp)
      have d0 : w2.cell? ⟨gb, 0, none⟩ = some (.int .i64 i) := hown.cells (g := gb) rfl 0 _ rfl
      have d1 : w2.cell? ⟨gb, 1, none⟩ = some (.int .i64 m) := hown.cells (g := gb) rfl 1 _ rfl
      have d2 : w2.cell? ⟨gb, 2, none⟩ = some (.int .i64 b) := hown.cells (g := gb) rfl 2 _ rfl
      have hz0 := HZ0'.out.below hB HZ0'.out.lt
      have hz1 := HZ1'.out.below hB HZ1'.out.lt
      have HZ0'' := Lib.hid hz0; clear hz0
      have HZ1'' := Lib.hid hz1
      obtain ⟨c0, c1, c2, c3⟩ := hz1.cells4
      obtain ⟨f0, f1, f2, f3⟩ := hz1.frozen4
      have HB2 := Lib.hid (below_step HB1.out hB HB1.out.size)
      clear hown hB hz1
      have hne1 : gb ≠ w.heap.size + 1 := by omega
      clear HZ0' HZ1' HB1 HRW HB0
      dsimp only [List.length_cons, List.length_nil, Nat.zero_add, Nat.reduceAdd]
      go_wp2_with fail
      go_region
      have hz1 : RecAt ((((w2.setCell ⟨w.heap.size + 1, 0, none⟩ (.int .i64 i)).setCell ⟨w.heap.size + 1, 1, none⟩ (.int .i64 m)).setCell ⟨w.heap.size + 1, 2, none⟩ (.int .i64 b)).setCell ⟨w.heap.size + 1, 3, none⟩ (.string (mkS rest))).drew (w.heap.size + 1) 87 i m b (mkS rest) :=
        (((HZ1''.out.set_ 0 _).set_ 1 _).set_ 2 _).set_ 3 _
      have hz0 : Blk ((((w2.setCell ⟨w.heap.size + 1, 0, none⟩ (.int .i64 i)).setCell ⟨w.heap.size + 1, 1, none⟩ (.int .i64 m)).setCell ⟨w.heap.size + 1, 2, none⟩ (.int .i64 b)).setCell ⟨w.heap.size + 1, 3, none⟩ (.string (mkS rest))).drew w.heap.size 55 (recCells 0 0 0 ⟨#[]⟩) :=
        (((HZ0''.out.far (by simp) _).far (by simp) _).far (by simp) _).far (by simp) _
      have hB3 : Below w.heap.size w ((((w2.setCell ⟨w.heap.size + 1, 0, none⟩ (.int .i64 i)).setCell ⟨w.heap.size + 1, 1, none⟩ (.int .i64 m)).setCell ⟨w.heap.size + 1, 2, none⟩ (.int .i64 b)).setCell ⟨w.heap.size + 1, 3, none⟩ (.string (mkS rest))).drew :=
        ((((HB2.out.setCell (by simp) _).setCell (by simp) _).setCell (by simp) _).setCell (by simp) _).drew
      have H1 := Lib.hid hz1; clear hz1
      have H0 := Lib.hid hz0; clear hz0
      have HB3 := Lib.hid hB3; clear hB3
      have HR := Lib.hid hr; clear hr
      clear HZ0'' HZ1'' HB2
      go_wp2_with fail
      clear c0 c1 c2 c3 f0 f1 f2 f3 d0 d1 d2
      refine (HMY.out _ _ H1.out).mono ?_
      rintro e w4 ⟨rfl, hB4⟩
      have hz1 := H1.out.below hB4 H1.out.lt
      have hz0 := H0.out.below hB4 H0.out.lt
      have HB4 := Lib.hid (below_step HB3.out hB4 HB3.out.size); clear hB4 HB3 H1 H0
      obtain ⟨c0, c1, c2, c3⟩ := hz1.cells4
      obtain ⟨q0, q1, q2, q3⟩ := hz0.cells4
      obtain ⟨f0, f1, f2, f3⟩ := hz0.frozen4
      have HZ := Lib.hid hz0; clear hz0 hz1
      generalize hq : mayB i m b rest = q at *
      cases q with
      | true =>
        have hr := HR.out
        rw [if_pos rfl] at hr
        have HR' := Lib.hid hr; clear hr HR hq
        go_wp2_with fail
        refine ret_blk2 (cs := recCells i m b (mkS rest)) (g := w.heap.size) rfl rfl ?_ Try.underlying55 rfl (by kernel_rfl) rfl ?_
        · exact (((HZ.out.set_ 0 _).set_ 1 _).set_ 2 _).set_ 3 _
        · show ReadPost w (readR s.data.toList) _ _
          rw [HR'.out]
          exact ⟨rfl, (((HB4.out.setCell (by simp) _).setCell (by simp) _).setCell (by simp) _).setCell (by simp) _⟩
      | false =>
        have hr := HR.out
        rw [if_neg (by simp)] at hr
        have HR' := Lib.hid hr; clear hr HR hq
        go_wp2_with fail
        refine ret_blk2 (cs := recCells 0 0 0 ⟨#[]⟩) (g := w.heap.size) rfl rfl ?_ Try.underlying55 rfl (by kernel_rfl) rfl ?_
        · exact (((HZ.out.set_ 0 _).set_ 1 _).set_ 2 _).set_ 3 _
        · show ReadPost w (readR s.data.toList) _ _
          rw [HR'.out]
          exact ⟨rfl, (((HB4.out.setCell (by simp) _).setCell (by simp) _).setCell (by simp) _).setCell (by simp) _⟩
end Go.Proofs.Ytkmiknefbbjggaa

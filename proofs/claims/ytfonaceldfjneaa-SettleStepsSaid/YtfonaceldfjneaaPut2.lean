/- num.Put: the walk. -/
import Derived.Test.YtfonaceldfjneaaPut
namespace Go.Proofs.Ytfonaceldfjneaa
open Go.RowKit

def putAll (n : Nat) (l : List Int) : Bs := l.flatMap fun x => leBytes n x.toNat
def putS (b : Bs) (wd : Int) (l : List Int) : Option Bs := if (1 ≤ wd ∧ wd ≤ 6) ∧ l.all (fitsB · wd) = true then some (b ++ putAll wd.toNat l) else none
def PutPost (w : World) : Option Bs → Ending → World → Prop
  | some x, e, w' => ∃ v, e = .returned (.tuple #[v, .int .i64 0]) ∧ w'.ownsRow w.heap.size 5 1 v x.length (bcells x) ∧ Below w.heap.size w w'
  | none, e, w' => e = .returned (.tuple #[.slice none 0 0, .int .i64 2]) ∧ Below w.heap.size w w'
theorem putAll_length (n : Nat) (l : List Int) : (putAll n l).length = n * l.length := by
  induction l with
  | nil => rfl
  | cons x l ih => simp only [putAll, List.flatMap_cons, List.length_append, leBytes_length] at ih ⊢; rw [ih, List.length_cons, Nat.mul_succ, Nat.add_comm]
theorem putAll_snoc (n : Nat) (l : List Int) (x : Int) : putAll n (l ++ [x]) = putAll n l ++ leBytes n x.toNat := by simp [putAll]
theorem u8_info : (Try.prog.info? 5).map (fun i => (i.zero, i.size, i.bytes)) = some (some (.int .u8 0), 1, 1) := by kernel_rfl
theorem i64_info : (Try.prog.info? 3).map (fun i => (i.zero, i.size, i.bytes)) = some (some (.int .i64 0), 1, 8) := by kernel_rfl
theorem putS_bad {b : Bs} {wd : Int} {l : List Int} {i : Nat} (hi : i < l.length) (hf : fitsB l[i] wd = false) : putS b wd l = none := by
  rw [putS, if_neg]
  rintro ⟨_, h⟩
  rw [List.all_eq_true] at h
  have := h l[i] (List.getElem_mem hi)
  rw [hf] at this
  cases this
theorem putS_ok {b : Bs} {wd : Nat} {l : List Int} (h1 : 1 ≤ wd) (h2 : wd ≤ 6) (hf : ∀ j (h : j < l.length), fitsB l[j] wd = true) : putS b wd l = some (b ++ putAll wd l) := by
  rw [putS, if_pos, Int.toNat_natCast]
  refine ⟨by omega, ?_⟩
  rw [List.all_eq_true]
  intro x hx
  obtain ⟨j, hj, rfl⟩ := List.getElem_of_mem hx
  exact hf j hj

theorem byte_of (x t : Nat) (hx : x ≤ 1099511627776) : bits .and .i64 ((x : Int) / 2 ^ (8 * t)) 255 % 256 = ((x / 256 ^ t % 256 : Nat) : Int) := by
  have e : (2 : Nat) ^ (8 * t) = 256 ^ t := by rw [Nat.pow_mul]
  have e1 : ((x : Int) / 2 ^ (8 * t)) = ((x / 256 ^ t : Nat) : Int) := by rw [← e]; simp
  have h1 : x / 256 ^ t ≤ x := Nat.div_le_self _ _
  rw [e1, show (255 : Int) = ((255 : Nat) : Int) from rfl, i64_and_nat _ _ (by omega) (by omega), nat_mask8]
  omega
set_option maxHeartbeats 1000000 in
set_option maxRecDepth 100000 in
theorem Put_in (Ab Al : Option Addr) (cb cl n : Nat) (b : Bs) (l : List Int) (w : World) (hn1 : 1 ≤ n) (hn6 : n ≤ 6) (hbd : b.length + 6 * l.length ≤ 1000000000)
    (hb : Reads w w.heap.size 1 Ab b.length (bcells b)) (hl : Reads w w.heap.size 1 Al l.length (icells l)) :
    Calls Try.prog 66 #[.slice Ab b.length cb, .int .i64 n, .slice Al l.length cl] w fun e w' => PutPost w (putS b n l) e w' := by
  obtain ⟨i0, hi0, hz0, hz1, hz2⟩ := info_parts u8_info
  have hmul : n * l.length ≤ 6 * l.length := Nat.mul_le_mul_right _ hn6
  obtain ⟨q, hq⟩ : ∃ q, q = n * l.length := ⟨_, rfl⟩
  have HQ := Lib.hid hq
  have hq2 : q ≤ 6 * l.length := by omega
  have hm : (n : Int) * (l.length : Int) = (q : Int) := by rw [hq]; simp
  clear hmul hq
  go_enter Try.func66, Try.ntmps66
  go_wp2_with (first
    | (go_at_call 70; refine (may_yes _ _ (by omega) (by omega)).mono ?_; rintro e w' ⟨rfl, rfl⟩)
    | (at_make; refine wpList_make_len _ rfl _ _ _ rfl w.heap.size 5 i0 (.int .u8 0) Try.underlying80 hi0 hz0 hz1 rfl _ _ _ _ b.length (b.length + q) rfl rfl rfl (by omega) (by omega) (by rw [hz2]; omega) (by unfold maxLen; omega) (Nat.le_refl _) ?_; intro w1 hown1 hg1)
    | ((with_reducible show wpList _ _ _ _ _ _); refine wpList_copy_all (o := ⟨some 27, _, _, _, _, _⟩) rfl (.tmp 25) (.tmp 26) _ _ rfl _ Try.underlying80 (by rw [hi0]; simp [hz1]) w.heap.size (.slice (some ⟨w.heap.size, 0, none⟩) b.length (b.length + q)) b.length _ (by rfl) hown1 w.heap.size Ab cb (bcells b) (by rfl) (hb.below (below_none (Below.refl _ _) hg1 (Nat.le_refl _))) (bcells_one b) ?_; intro w2 hown2 hg2))
  have hB1 : Below w.heap.size w w1 := below_none (Below.refl _ _) hg1 (Nat.le_refl _)
  have hB2 : Below w.heap.size w w2 := below_own hB1 hown1 hg2 hB1.size
  clear hown1 hg1 hg2 hB1
  generalize Value.slice (some ⟨w.heap.size, 0, none⟩) b.length (b.length + q) = v0 at *
  go_loopg [8, 30] l.length (fun k v i wr => ∃ j : Nat, j ≤ l.length ∧ k = l.length - j ∧ i = .int .i64 j ∧ wr.ownsRow w.heap.size 5 1 v (b ++ putAll n (l.take j)).length (bcells (b ++ putAll n (l.take j))) ∧ Below w.heap.size w wr ∧ ∀ t (h : t < l.length), t < j → fitsB l[t] n = true)
  case atStart => exact ⟨0, Nat.zero_le _, by simp, rfl, by simpa [putAll] using hown2, hB2, fun t _ h => absurd h (by omega)⟩
  case round =>
    obtain ⟨j, hj, rfl, rfl, hown, hB, hfit⟩ := hrel
    have HF := Lib.hid hfit; clear hfit
    by_cases hlt : j < l.length
    · obtain ⟨ad, rfl, had, hc⟩ := (hl.below hB).cell_ hlt (icells_get l j hlt)
      by_cases hf : fitsB l[j] n = true
      · obtain ⟨x, hx⟩ : ∃ x : Nat, l[j] = (x : Int) := ⟨l[j].toNat, by have := of_decide_eq_true hf; omega⟩
        rw [hx] at hc hf
        have hx2 := fits_lt hf
        have HFx := Lib.hid hf
        have HX := Lib.hid hx; clear hx
        generalize hpre : b ++ putAll n (l.take j) = pre at *
        have HP := Lib.hid hpre; clear hpre
        go_wp2_with (first
          | (go_at_call 71; refine (Fits_any _ _ _).mono ?_; rintro e w' ⟨rfl, rfl⟩))
        have hpl : pre.length + 6 ≤ 2000000000 := by
          have h1 := HP.out; have h2 := congrArg List.length h1
          rw [List.length_append, putAll_length, List.length_take] at h2
          have h3 : n * min j l.length ≤ 6 * l.length := Nat.mul_le_mul hn6 (by omega)
          omega
        go_loopg [8, 39] n (fun k v i wr => ∃ t : Nat, t ≤ n ∧ k = n - t ∧ i = .int .i64 t ∧ wr.ownsRow w.heap.size 5 1 v (pre ++ leBytes t x).length (bcells (pre ++ leBytes t x)) ∧ Below w.heap.size w wr)
        case atStart => exact ⟨0, Nat.zero_le _, by simp, rfl, by simpa [leBytes] using hown, hB⟩
        case round =>
          clear hown hc hB hf hl hb hown2 hB2
          rename_i wo
          obtain ⟨t, ht, rfl, rfl, hown, hB⟩ := hrel
          by_cases htn : t < n
          · have hlen : (pre ++ leBytes t x).length = pre.length + t := by simp [leBytes_length]
            have HL := Lib.hid hlen; clear hlen
            go_wp2_with (first
              | (at_builtin; refine wpList_append_own _ rfl (.tmp 42) (.tmp 49) 80 rfl w.heap.size 5 i0 (.int .u8 0) 1 1 Try.underlying80 hi0 hz0 hz1 hz2 rfl (by decide) u8 _ _ (by rfl) (hown.alloc _) ⟨wr.heap.size, 0, none⟩ 1 1 _ rfl rfl (cell_one_new _ _ _) (by intro u hu; simp at hu; subst hu; rfl) (by rw [HL.out]; unfold maxLen; omega) (by rw [HL.out]; omega) (by have := hB.size; simp; omega) ?_; intro v1 w1 hown1 hg1 _))
            have hown2 : w1.ownsRow w.heap.size 5 1 v1 (pre ++ leBytes (t + 1) x).length (bcells (pre ++ leBytes (t + 1) x)) := by
              rw [leBytes_snoc, ← List.append_assoc, bcells_append, List.length_append]
              rw [byte_of x t hx2.2.1] at hown1; simpa [bcells] using hown1
            have hB2 : Below w.heap.size w w1 := below_own (hB.alloc hB.size _) (hown.alloc _) hg1 (by have := hB.size; simp; omega)
            clear hown1 hg1 hown
            go_roundg (n - (t + 1))
            case rel => exact ⟨t + 1, by omega, rfl, by go_num, hown2, hB2⟩
            case measure => omega
          · obtain rfl : t = n := by omega
            go_wp2
            go_roundg (l.length - (j + 1))
            case rel =>
              refine ⟨j + 1, by omega, rfl, by go_num, ?_, hB, fun i hi hij => ?_⟩
              · have e : b ++ putAll t (l.take (j + 1)) = pre ++ leBytes t x := by
                  rw [List.take_succ_eq_append_getElem hlt, putAll_snoc, HX.out, Int.toNat_natCast, ← List.append_assoc, HP.out]
                rw [e]; exact hown
              · rcases Nat.lt_or_ge i j with h | h
                · exact HF.out i hi h
                · obtain rfl : i = j := by omega
                  rw [HX.out]; exact HFx.out
            case measure => omega
      · have hf' : fitsB l[j] n = false := by simpa using hf
        have hps := putS_bad (b := b) hlt hf'
        have HPS := Lib.hid hps; clear hps
        go_wp2_with (first
          | (go_at_call 71; refine (Fits_any _ _ _).mono ?_; rintro e w' ⟨rfl, rfl⟩))
        go_ret2
        show PutPost w (putS b n l) _ _
        rw [HPS.out]
        exact ⟨rfl, hB⟩
    · obtain rfl : j = l.length := by omega
      have hps := putS_ok (b := b) hn1 hn6 (fun t ht => HF.out t ht ht)
      rw [List.take_length] at hown
      have HPS := Lib.hid hps; clear hps
      go_wp2
      go_ret2
      show PutPost w (putS b n l) _ _
      rw [HPS.out]
      exact ⟨_, rfl, hown, hB⟩

theorem Put_any (Ab Al : Option Addr) (cb cl : Nat) (n : Int) (b : Bs) (l : List Int) (w : World) (hbd : b.length + 6 * l.length ≤ 1000000000)
    (hb : Reads w w.heap.size 1 Ab b.length (bcells b)) (hl : Reads w w.heap.size 1 Al l.length (icells l)) :
    Calls Try.prog 66 #[.slice Ab b.length cb, .int .i64 n, .slice Al l.length cl] w fun e w' => PutPost w (putS b n l) e w' := by
  by_cases hn : 1 ≤ n ∧ n ≤ 6
  · obtain ⟨n', rfl⟩ := Int.eq_ofNat_of_zero_le (show 0 ≤ n by omega)
    exact Put_in Ab Al cb cl n' b l w (by omega) (by omega) hbd hb hl
  · have hps : putS b n l = none := by rw [putS, if_neg (fun h => hn h.1)]
    rw [hps]
    clear hb hl
    go_enter Try.func66, Try.ntmps66
    go_wp2_with (go_at_call 70; refine (may_no _ _ hn).mono ?_; rintro e w' ⟨rfl, rfl⟩)
    go_ret2
    exact ⟨rfl, Below.refl _ _⟩
end Go.Proofs.Ytfonaceldfjneaa

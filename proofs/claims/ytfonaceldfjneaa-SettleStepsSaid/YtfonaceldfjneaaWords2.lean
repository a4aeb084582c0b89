/- More words for memory: append of whatever source, bytes as a string, a string as bytes. -/
import Derived.Test.YtfonaceldfjneaaWords
import Derived.WalkKit
import Derived.Laws.IdiomStrings
import Derived.Lib.Strings
namespace Go.Proofs.Ytfonaceldfjneaa
open Go.RowKit

theorem only_trans {a b c : World} {row : Option Nat} (h : a.grownBy b row) (k : b.grownBy c row) : a.grownBy c row :=
  ⟨k.os.trans h.os, k.tape.trans h.tape, k.output.trans h.output, Nat.le_trans h.size k.size, fun i hi hne => (k.block i (Nat.lt_of_lt_of_le hi h.size) hne).trans (h.block i hi hne)⟩
theorem only_own {a w w' : World} {row : Option Nat} {base : Nat} {e : TypeId} {s n : Nat} {v : Value} {xs : List Value} (h : a.grownBy w row) (hown : w.ownsRow base e s v n xs) (hb : a.heap.size ≤ base) (hg : w.grownBy w' v.ownBlock) : a.grownBy w' row :=
  ⟨hg.os.trans h.os, hg.tape.trans h.tape, hg.output.trans h.output, Nat.le_trans h.size hg.size, fun i hi hne => (hg.block i (Nat.lt_of_lt_of_le hi h.size) (fun e => by have := (hown.lt i e.symm).1; omega)).trans (h.block i hi hne)⟩
theorem only_below {a w w' : World} {row : Option Nat} (h : a.grownBy w row) (hb : Below w.heap.size w w') : a.grownBy w' row :=
  only_trans h (only_of_below hb row)
theorem below_only {a w w' : World} {g : Nat} (h : Below a.heap.size a w) (hg : w.grownBy w' (some g)) (hlt : a.heap.size ≤ g) : Below a.heap.size a w' :=
  h.grown hg h.size (fun k hk => by injection hk with hk; omega)
theorem Blk.only {w w' : World} {g g' : Nat} {t : TypeId} {cs : Array Value} (h : Blk w g t cs) (hg : w.grownBy w' (some g')) (hne : g ≠ g') : Blk w' g t cs :=
  h.grown hg (fun e => hne (by injection e))
theorem reads_blk {w : World} {g : Nat} {t : TypeId} {cs : Array Value} (h : Blk w g t cs) {n : Nat} (hn : cs.size = n) {xs : List Value} (hx : cs.toList = xs) : Reads w w.heap.size 1 (some ⟨g, 0, none⟩) n xs := by
  subst hx hn
  refine ⟨by simp, fun _ => ⟨_, rfl, h.lt, fun j u hu => ?_⟩⟩
  have : (⟨g, 0, none⟩ : Addr).add j = ⟨g, j, none⟩ := by unfold Addr.add; split <;> simp_all
  rw [this, h.cell j]
  simpa using hu
theorem own_blk {w : World} {g : Nat} {t : TypeId} {cs : Array Value} (h : Blk w g t cs) {n : Nat} (hn : cs.size = n) (hm : n ≤ maxLen) {xs : List Value} (hx : cs.toList = xs) {base : Nat} (hb : base ≤ g) : w.ownsRow base t 1 (.slice (some ⟨g, 0, none⟩) n n) n xs := by
  subst hx hn
  exact ⟨by simp, .inr ⟨g, cs.size, cs, rfl, hb, h, Nat.le_refl _, hm, by simp, by rw [Nat.mul_one]; exact List.take_of_length_le (by simp)⟩⟩

theorem Blk.cells4 {w : World} {g : Nat} {t : TypeId} {a b c d : Value} (h : Blk w g t #[a, b, c, d]) : w.cell? ⟨g, 0, none⟩ = some a ∧ w.cell? ⟨g, 1, none⟩ = some b ∧ w.cell? ⟨g, 2, none⟩ = some c ∧ w.cell? ⟨g, 3, none⟩ = some d :=
  ⟨h.cell 0, h.cell 1, h.cell 2, h.cell 3⟩
theorem Blk.frozen4 {w : World} {g : Nat} {t : TypeId} {cs : Array Value} (h : Blk w g t cs) : w.frozen? ⟨g, 0, none⟩ = false ∧ w.frozen? ⟨g, 1, none⟩ = false ∧ w.frozen? ⟨g, 2, none⟩ = false ∧ w.frozen? ⟨g, 3, none⟩ = false :=
  ⟨h.frozen 0, h.frozen 1, h.frozen 2, h.frozen 3⟩

def mkS (l : Bs) : ByteArray := ⟨l.toArray⟩
theorem mkS_toList (l : Bs) : (mkS l).data.toList = l := rfl
theorem mkS_size (l : Bs) : (mkS l).size = l.length := by simp [mkS, ByteArray.size]
theorem byteCells_eq (s : ByteArray) : byteCells s = bcells s.data.toList := rfl
theorem mkS_self (s : ByteArray) : mkS s.data.toList = s := by cases s; rfl

section
variable {P : Program} (w : World)

theorem run_append_src (base : Nat) (t tx ty e : TypeId) (i : TypeInfo) (z : Value) (bytes : Nat) (ht : P.underlying t = some (.slice e)) (hi : P.info? e = some i) (hz : i.zero = some z)
    (hsize : i.size = 1) (hby : i.bytes = bytes) (hzs : z.cells.size = 1)
    (v : Value) (n : Nat) (xs : List Value) (hown : w.ownsRow base e 1 v n xs) (hn : 0 < n)
    (x : Value) (m : Nat) (news : List Value) (hs : Src P 1 tx x m news w)
    (h63 : n + m ≤ maxLen) (hbytes : (n + m) * bytes ≤ 140737488355328) (hbase : base ≤ w.heap.size) :
    ∃ v' w', (Builtin.append_ #[t, tx] ty #[v, x]).run P w = .ok v' w' ∧ w'.ownsRow base e 1 v' (n + m) (xs ++ news) ∧ w.grownBy w' v.ownBlock ∧
      (v'.ownBlock = v.ownBlock ∨ v'.ownBlock = some w.heap.size) := by
  have hl : news.length = m := by have := hs.newsLen; omega
  have hlx : xs.length = n := own_len hown
  have hlen : (xs ++ news).length = (n + m) * 1 := by rw [List.length_append]; omega
  have h63' : n + m ≤ 9223372036854775807 := by unfold maxLen at h63; omega
  rcases hown.2 with ⟨_, h0⟩ | ⟨g, cap, cur, rfl, hbg, hg, hnc, hcm, hcs, htake⟩
  · omega
  · by_cases hroom : n + m ≤ cap
    · have hfit : n * i.size + news.length ≤ cur.size := by rw [hsize]; omega
      have hst := run_storeCells_at P g (n * i.size) e news 0 cur w hg (by simpa using hfit) hs.one
      simp only [Nat.add_zero] at hst
      have hcells := hs.cells
      rw [← hsize] at hcells
      have hr : (Builtin.append_ #[t, tx] ty #[.slice (some ⟨g, 0, none⟩) n cap, x]).run P w = .ok (.slice (some ⟨g, 0, none⟩) (n + m) cap) (w.setRow g (cur.toList.take (n * i.size) ++ news ++ cur.toList.drop (n * i.size + news.length)).toArray) := by
        rcases hs.kind with ⟨e', hk⟩ | hk <;> simp [Builtin.append_, run_underlying ht, run_underlying hk, sizeOf, typeInfo, hi, hs.len, hroom, hcells, Addr.add_lit, hst]
      refine ⟨_, _, hr, ⟨hlen, .inr ⟨g, cap, _, rfl, hbg, setRow_heap w g cur _ e _ hg, hroom, hcm, ?_, ?_⟩⟩, ⟨rfl, rfl, rfl, by simp, fun k _ hk => setRow_other w g k _ (fun e => hk (by simp [Value.ownBlock, e]))⟩, .inl rfl⟩
      · simp only [List.size_toArray, List.length_append, List.length_take, List.length_drop, Array.length_toList, hsize]
        omega
      · rw [hsize, htake, ← hlen]
        exact List.take_left
    · have holds : ∀ j u, xs[j]? = some u → w.cell? ((⟨g, 0, none⟩ : Addr).add j) = some u := hown.cells (g := g) rfl
      have hs' := hs
      rw [← hsize] at hs'
      have hold : (Builtin.firstCells i.size n (.slice (some ⟨g, 0, none⟩) n cap)).run P w.drew = .ok xs.toArray w.drew :=
        run_firstCells_some w.drew i.size n ⟨g, 0, none⟩ n cap xs (by rw [hsize]; omega) (by simpa using holds)
      have hr := run_append_grow_src (P := P) w t tx ty e i z ht hi hz (some ⟨g, 0, none⟩) n cap xs hold x m news hs' (by omega) (by omega) (by rw [hby]; exact growslice_fits (by omega) hbytes)
      have hge := grownCap_ge w (n + m) cap e
      have hcm' : grownCap w (n + m) cap e ≤ maxLen := grownCap_le_maxLen w (n + m) cap e h63
      refine ⟨_, _, hr, ⟨hlen, .inr ⟨w.heap.size, _, _, rfl, hbase, heap_alloc_new w.drew _, hge, hcm', ?_, ?_⟩⟩, ⟨rfl, rfl, rfl, by simp, fun k hk hne => (World.grownBy_alloc w.drew _ _).block k hk hne⟩, .inr rfl⟩
      · simp only [Array.size_append, List.size_toArray, size_zeroCells, hzs, List.length_append]
        omega
      · simp only [Array.toList_append]
        rw [← hlen]
        exact List.take_left

theorem wp_append_src {o : Oper} {a : Act} {K : Act → World → Prop} {Q : Exit → Act → World → Prop} (s x : Operand) (t tx : TypeId)
    (ho : o.op = .call { callee := .builtin .append, args := #[s, x], argTypes := #[t, tx] })
    (base : Nat) (e : TypeId) (i : TypeInfo) (z : Value) (bytes : Nat) (ht : P.underlying t = some (.slice e)) (hi : P.info? e = some i) (hz : i.zero = some z)
    (hsize : i.size = 1) (hby : i.bytes = bytes) (hzs : z.cells.size = 1)
    (v : Value) (n : Nat) (xs : List Value) (hv : a.eval s = v) (hown : w.ownsRow base e 1 v n xs) (hn : 0 < n)
    (y : Value) (m : Nat) (news : List Value) (hx : a.eval x = y) (hs : Src P 1 tx y m news w)
    (h63 : n + m ≤ maxLen) (hbytes : (n + m) * bytes ≤ 140737488355328) (hbase : base ≤ w.heap.size)
    (h : ∀ v' w', w'.ownsRow base e 1 v' (n + m) (xs ++ news) → w.grownBy w' v.ownBlock → (v'.ownBlock = v.ownBlock ∨ v'.ownBlock = some w.heap.size) → K (a.put o.dst v') w') : o.wp P a w K Q := by
  obtain ⟨v', w', hrun, h2, h3, h4⟩ := run_append_src (P := P) w base t tx o.type e i z bytes ht hi hz hsize hby hzs v n xs hown hn y m news hs h63 hbytes hbase
  unfold Oper.wp execOp
  simp only [ho, resolve, invoke, builtin, Sem.run_bind, Sem.run_pure, Result.andThen_ok, List.map_toArray, List.map_cons, List.map_nil, hv, hx, hrun]
  exact h v' w' h2 h3 h4

theorem wpList_append_src {ops : Array Oper} {rest : List Oper} {o : Oper} {a : Act} {Q : Exit → Act → World → Prop} (hgd : o.guard = none) (s x : Operand) (t tx : TypeId)
    (ho : o.op = .call { callee := .builtin .append, args := #[s, x], argTypes := #[t, tx] })
    (base : Nat) (e : TypeId) (i : TypeInfo) (z : Value) (bytes : Nat) (ht : P.underlying t = some (.slice e)) (hi : P.info? e = some i) (hz : i.zero = some z)
    (hsize : i.size = 1) (hby : i.bytes = bytes) (hzs : z.cells.size = 1)
    (v : Value) (n : Nat) (xs : List Value) (hv : a.eval s = v) (hown : w.ownsRow base e 1 v n xs) (hn : 0 < n)
    (y : Value) (m : Nat) (news : List Value) (hx : a.eval x = y) (hs : Src P 1 tx y m news w)
    (h63 : n + m ≤ maxLen) (hbytes : (n + m) * bytes ≤ 140737488355328) (hbase : base ≤ w.heap.size)
    (h : ∀ v' w', w'.ownsRow base e 1 v' (n + m) (xs ++ news) → w.grownBy w' v.ownBlock → (v'.ownBlock = v.ownBlock ∨ v'.ownBlock = some w.heap.size) → wpList P ops Q rest (a.put o.dst v') w') : wpList P ops Q (o :: rest) a w :=
  wpList_plain hgd fun _ hK => wp_append_src w s x t tx ho base e i z bytes ht hi hz hsize hby hzs v n xs hv hown hn y m news hx hs h63 hbytes hbase fun v' w' h2 h3 h4 => hK _ _ (h v' w' h2 h3 h4)

/-- 'string(b)' -/
theorem run_string_of (src dst e : TypeId) (hs : P.underlying src = some (.slice e)) (he : P.underlying e = some (.int .u8)) (hd : P.underlying dst = some .string)
    (B : Nat) (A : Option Addr) (c : Nat) (l : Bs) (hr : Reads w B 1 A l.length (bcells l)) :
    (convert src dst (.slice A l.length c)).run P w = .ok (.string (mkS l)) w := by
  rw [run_convert_bytes_string w src dst e _ l.length c hs he hd]
  have key : ∀ ad : Addr, (∀ j v, (bcells l)[j]? = some v → w.cell? (ad.add j) = some v) → (Conv.bytesToString (.slice (some ad) l.length c)).run P w = .ok (.string (mkS l)) w := by
    intro ad hc
    have hl := run_loadCells_list (P := P) w ad (bcells l) hc
    rw [bcells_length] at hl
    have he : bcells l = (l.map fun c => (c.toNat : Int)).map (Value.int .u8) := by simp [bcells]
    rw [he] at hl
    rw [run_bytesToString w ad l.length c _ hl, foldl_push_bytes]
    congr 2
    have hid : ((fun n : Int => UInt8.ofNat n.toNat) ∘ fun c : UInt8 => (c.toNat : Int)) = id := by funext c; simp
    simp [mkS, ByteArray.empty, ByteArray.emptyWithCapacity, hid]
    rfl
  by_cases h0 : l.length = 0
  · have : l = [] := List.eq_nil_of_length_eq_zero h0
    subst this
    cases A with
    | none => simp [Conv.bytesToString]; rfl
    | some ad => exact key ad (fun j v h => by simp [bcells] at h)
  · obtain ⟨ad, rfl, _, hc⟩ := hr.2 (by omega)
    exact key ad hc

end

/-- a row of bytes made of a string: its first n cells -/
def BRow (w : World) (g n : Nat) (e : TypeId) (xs : List Value) : Prop :=
  ∃ (C : Array Value) (m : Nat), w.heap[g]? = some (.cells C e (m, m + 1)) ∧ n ≤ m ∧ n ≤ C.size ∧ C.toList.take n = xs
theorem BRow.lt {w : World} {g n : Nat} {e : TypeId} {xs : List Value} (h : BRow w g n e xs) : g < w.heap.size := by
  obtain ⟨C, m, hg, _⟩ := h; exact (Array.getElem?_eq_some_iff.1 hg).1
theorem BRow.len {w : World} {g n : Nat} {e : TypeId} {xs : List Value} (h : BRow w g n e xs) : xs.length = n := by
  obtain ⟨C, m, hg, _, hn, rfl⟩ := h; simp; omega
theorem BRow.cell {w : World} {g n : Nat} {e : TypeId} {xs : List Value} (h : BRow w g n e xs) (j : Nat) (hj : j < n) : w.cell? ⟨g, j, none⟩ = xs[j]? := by
  obtain ⟨C, m, hg, _, _, rfl⟩ := h
  rw [cell_of_row w g j C e _ hg, List.getElem?_take, if_pos hj]; simp
theorem BRow.frozen {w : World} {g n : Nat} {e : TypeId} {xs : List Value} (h : BRow w g n e xs) (j : Nat) (hj : j < n) : w.frozen? ⟨g, j, none⟩ = false := by
  obtain ⟨C, m, hg, hm, _, rfl⟩ := h
  simp only [World.frozen?, hg]
  have : ¬ m ≤ j := by omega
  simp [this]
theorem BRow.set_ {w : World} {g n : Nat} {e : TypeId} {xs : List Value} (h : BRow w g n e xs) (j : Nat) (u : Value) : BRow (w.setCell ⟨g, j, none⟩ u) g n e (xs.set j u) := by
  obtain ⟨C, m, hg, hm, hn, rfl⟩ := h
  refine ⟨C.setIfInBounds j u, m, ?_, hm, by simpa using hn, ?_⟩
  · simp [World.setCell, Array.getElem?_modify, hg]
  · simp [List.take_set]
theorem BRow.below {w w' : World} {g n B : Nat} {e : TypeId} {xs : List Value} (h : BRow w g n e xs) (hb : Below B w w') (hg : g < B) : BRow w' g n e xs := by
  obtain ⟨C, m, h1, h2⟩ := h; exact ⟨C, m, (hb.block g hg).trans h1, h2⟩
theorem BRow.reads {w : World} {g n : Nat} {e : TypeId} {xs : List Value} (h : BRow w g n e xs) : Reads w w.heap.size 1 (some ⟨g, 0, none⟩) n xs := by
  refine ⟨by rw [h.len]; omega, fun _ => ⟨_, rfl, h.lt, fun j u hu => ?_⟩⟩
  have e1 : (⟨g, 0, none⟩ : Addr).add j = ⟨g, j, none⟩ := by unfold Addr.add; split <;> simp_all
  have hj : j < n := by
    rcases Nat.lt_or_ge j n with h1 | h1
    · exact h1
    · rw [List.getElem?_eq_none (by rw [h.len]; exact h1)] at hu; cases hu
  rw [e1, h.cell j hj]; exact hu

/-- '[]byte(s)' -/
theorem run_bytes_new {P : Program} (w : World) (src dst e : TypeId) (s : ByteArray) (hs : P.underlying src = some .string) (hd : P.underlying dst = some (.slice e)) (he : P.underlying e = some (.int .u8)) (hm : s.size ≤ maxLen) :
    ∃ c w', (convert src dst (.string s)).run P w = .ok (.slice (some ⟨w.heap.size, 0, none⟩) s.size c) w' ∧ s.size ≤ c ∧ c ≤ maxLen ∧ BRow w' w.heap.size s.size e (bcells s.data.toList) ∧ Below w.heap.size w w' ∧ w'.heap.size = w.heap.size + 1 := by
  have hr := run_bytes_of_string (P := P) w src dst e s hs hd he
  have hge : s.size ≤ grownCap w s.size 0 e := grownCap_ge w s.size 0 e
  refine ⟨_, _, hr, hge, grownCap_le_maxLen w _ _ _ hm, ⟨bytesRow s (grownCap w s.size 0 e), (bytesRow s (grownCap w s.size 0 e)).size, ?_, ?_, ?_, ?_⟩, (Below.refl _ _).drew.alloc (by exact Nat.le_refl _) _, by simp⟩
  · show (w.heap.push _)[w.heap.size]? = _
    simp
  · simp [bytesRow]
  · simp [bytesRow]
  · unfold bytesRow bcells
    simp
end Go.Proofs.Ytfonaceldfjneaa

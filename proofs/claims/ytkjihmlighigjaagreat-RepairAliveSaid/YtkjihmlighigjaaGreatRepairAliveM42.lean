/- Nodes, tables, proposals and the like: as structures, as cells; an argument's cells read as such. (printed by gen/nodev.py) -/
import Derived.Test.YtkjihmlighigjaaGreatRepairAliveM41
import Derived.Test.YtkjihmlighigjaaGreatRepairAliveM30
import Derived.Test.YtkjihmlighigjaaGreatRepairAliveM01
import Derived.Test.YtkjihmlighigjaaGreatRepairAliveM40
import Derived.Test.YtkjihmlighigjaaGreatRepairAliveM02
import Derived.Test.YtkjihmlighigjaaGreatRepairAliveM03
set_option linter.unusedSimpArgs false
set_option linter.unusedVariables false
namespace Go.Proofs.YtkjihmlighigjaaGreat
open Go.RowKit
structure Slt where
  key : Int
  claim : Int
structure Hld where
  key : Int
  lo : Int
  hi : Int
  mode : Int
structure Tabl where
  slots : List Slt
  holds : List Hld
  queue : List Hld
structure Wat where
  key : Int
  count : Int
  since : Int
  looked : Bool
structure Spn where
  lo : Int
  hi : Int
structure Rcd where
  key : Int
  lsn : Int
  block : Int
  k : Int
  text : ByteArray
  count : Int
structure Cmd where
  kind : Int
  by_ : Int
  serial : Int
  dead : Int
  was : Int
  lo : Int
  hi : Int
  mode : Int
structure Opn where
  kind : Int
  lo : Int
  hi : Int
  mode : Int
  block : Int
  text : ByteArray
  node : Int
  key : Int
structure Rc where
  inst : Int
  mbal : Int
  bal : Int
  val : ByteArray
structure Tly where
  inst : Int
  mbal : Int
  best : Int
  val : ByteArray
  seen : Int
  ahead : Bool
  lost : Bool
structure Prp where
  node : Int
  cmd : ByteArray
  at_ : Int
  i : Int
  own : Rc
  t : Tly
structure Put_ where
  l : List Rcd
  i : Int
structure Stl where
  cells : List Pr
  i : Int
  left : Int
  at_ : Int
structure Rpl where
  slot : Int
  key : Int
  at_ : Int
  tail : Int
  l : List Rcd
  cells : List Pr
  i : Int
  end_ : Int
structure Fet where
  block : Int
  k : Int
  parts : List ByteArray
structure Txn where
  open_ : Bool
  writes : List Pr
structure Nod where
  num : Int
  clock : Int
  up : Bool
  over : Int
  key : Int
  asked : Int
  count : Int
  mounted : Bool
  slot : Int
  head : Int
  tail : Int
  table : Tabl
  done : Int
  serial : Int
  txn : Txn
  pend : List Pr
  watch : List Wat
  giving : List Spn
  givingAll : Bool
  busy : Bool
  op : Opn
  at_ : Int
  p : Prp
  pu : Put_
  st : Stl
  r : Rpl
  f : Fet
structure Ans where
  e : Int
  text : ByteArray
  yes : Bool
def shSlt : List Sh := [.int .i64, .int .i64]
def shHld : List Sh := [.int .i64, .int .i64, .int .i64, .int .i8]
def shWat : List Sh := [.int .i64, .int .i64, .int .i64, .bool]
def shSpn : List Sh := [.int .i64, .int .i64]
def shBk : List Sh := [.int .i64, .str]
def shCel : List Sh := [.int .i64, .str]
def shRcd : List Sh := [.int .i64, .int .i64, .int .i64, .int .i64, .str, .int .i64]
def shNod : List Sh := [.int .i64, .int .i64, .bool, .int .i64, .int .i64, .int .i64, .int .i64, .bool, .int .i64, .int .i64, .int .i64, .sl shSlt, .sl shHld, .sl shHld, .int .i64, .int .i64, .bool, .sl shBk, .sl shBk, .sl shWat, .sl shSpn, .bool, .bool, .int .i8, .int .i64, .int .i64, .int .i8, .int .i64, .str, .int .i64, .int .i64, .int .i8, .int .i64, .str, .int .i8, .int .i64, .int .i64, .int .i64, .int .i64, .str, .int .i64, .int .i64, .int .i64, .str, .int .i64, .bool, .bool, .sl shRcd, .int .i64, .sl shCel, .int .i64, .int .i64, .int .i8, .int .i64, .int .i64, .int .i8, .int .i64, .sl shRcd, .sl shCel, .int .i64, .int .i64, .int .i64, .int .i64, .sl [.str]]
structure InSlt (x : Slt) : Prop where
  key : (-9223372036854775808 ≤ x.key ∧ x.key ≤ 9223372036854775807)
  claim : (-9223372036854775808 ≤ x.claim ∧ x.claim ≤ 9223372036854775807)
structure InHld (x : Hld) : Prop where
  key : (-9223372036854775808 ≤ x.key ∧ x.key ≤ 9223372036854775807)
  lo : (-9223372036854775808 ≤ x.lo ∧ x.lo ≤ 9223372036854775807)
  hi : (-9223372036854775808 ≤ x.hi ∧ x.hi ≤ 9223372036854775807)
  mode : (-128 ≤ x.mode ∧ x.mode ≤ 127)
structure InTabl (x : Tabl) : Prop where
  slots : (x.slots.length ≤ 9223372036854775807 ∧ ∀ z ∈ x.slots, InSlt z)
  holds : (x.holds.length ≤ 9223372036854775807 ∧ ∀ z ∈ x.holds, InHld z)
  queue : (x.queue.length ≤ 9223372036854775807 ∧ ∀ z ∈ x.queue, InHld z)
structure InWat (x : Wat) : Prop where
  key : (-9223372036854775808 ≤ x.key ∧ x.key ≤ 9223372036854775807)
  count : (-9223372036854775808 ≤ x.count ∧ x.count ≤ 9223372036854775807)
  since : (-9223372036854775808 ≤ x.since ∧ x.since ≤ 9223372036854775807)
structure InSpn (x : Spn) : Prop where
  lo : (-9223372036854775808 ≤ x.lo ∧ x.lo ≤ 9223372036854775807)
  hi : (-9223372036854775808 ≤ x.hi ∧ x.hi ≤ 9223372036854775807)
structure InBk (x : Pr) : Prop where
  n : (-9223372036854775808 ≤ x.n ∧ x.n ≤ 9223372036854775807)
  t : x.t.size ≤ 9223372036854775807
structure InCel (x : Pr) : Prop where
  n : (-9223372036854775808 ≤ x.n ∧ x.n ≤ 9223372036854775807)
  t : x.t.size ≤ 9223372036854775807
structure InRcd (x : Rcd) : Prop where
  key : (-9223372036854775808 ≤ x.key ∧ x.key ≤ 9223372036854775807)
  lsn : (-9223372036854775808 ≤ x.lsn ∧ x.lsn ≤ 9223372036854775807)
  block : (-9223372036854775808 ≤ x.block ∧ x.block ≤ 9223372036854775807)
  k : (-9223372036854775808 ≤ x.k ∧ x.k ≤ 9223372036854775807)
  text : x.text.size ≤ 9223372036854775807
  count : (-9223372036854775808 ≤ x.count ∧ x.count ≤ 9223372036854775807)
structure InCmd (x : Cmd) : Prop where
  kind : (-128 ≤ x.kind ∧ x.kind ≤ 127)
  by_ : (-9223372036854775808 ≤ x.by_ ∧ x.by_ ≤ 9223372036854775807)
  serial : (-9223372036854775808 ≤ x.serial ∧ x.serial ≤ 9223372036854775807)
  dead : (-9223372036854775808 ≤ x.dead ∧ x.dead ≤ 9223372036854775807)
  was : (-9223372036854775808 ≤ x.was ∧ x.was ≤ 9223372036854775807)
  lo : (-9223372036854775808 ≤ x.lo ∧ x.lo ≤ 9223372036854775807)
  hi : (-9223372036854775808 ≤ x.hi ∧ x.hi ≤ 9223372036854775807)
  mode : (-128 ≤ x.mode ∧ x.mode ≤ 127)
structure InOpn (x : Opn) : Prop where
  kind : (-128 ≤ x.kind ∧ x.kind ≤ 127)
  lo : (-9223372036854775808 ≤ x.lo ∧ x.lo ≤ 9223372036854775807)
  hi : (-9223372036854775808 ≤ x.hi ∧ x.hi ≤ 9223372036854775807)
  mode : (-128 ≤ x.mode ∧ x.mode ≤ 127)
  block : (-9223372036854775808 ≤ x.block ∧ x.block ≤ 9223372036854775807)
  text : x.text.size ≤ 9223372036854775807
  node : (-9223372036854775808 ≤ x.node ∧ x.node ≤ 9223372036854775807)
  key : (-9223372036854775808 ≤ x.key ∧ x.key ≤ 9223372036854775807)
structure InRc (x : Rc) : Prop where
  inst : (-9223372036854775808 ≤ x.inst ∧ x.inst ≤ 9223372036854775807)
  mbal : (-9223372036854775808 ≤ x.mbal ∧ x.mbal ≤ 9223372036854775807)
  bal : (-9223372036854775808 ≤ x.bal ∧ x.bal ≤ 9223372036854775807)
  val : x.val.size ≤ 9223372036854775807
structure InTly (x : Tly) : Prop where
  inst : (-9223372036854775808 ≤ x.inst ∧ x.inst ≤ 9223372036854775807)
  mbal : (-9223372036854775808 ≤ x.mbal ∧ x.mbal ≤ 9223372036854775807)
  best : (-9223372036854775808 ≤ x.best ∧ x.best ≤ 9223372036854775807)
  val : x.val.size ≤ 9223372036854775807
  seen : (-9223372036854775808 ≤ x.seen ∧ x.seen ≤ 9223372036854775807)
structure InPrp (x : Prp) : Prop where
  node : (-9223372036854775808 ≤ x.node ∧ x.node ≤ 9223372036854775807)
  cmd : x.cmd.size ≤ 9223372036854775807
  at_ : (-128 ≤ x.at_ ∧ x.at_ ≤ 127)
  i : (-9223372036854775808 ≤ x.i ∧ x.i ≤ 9223372036854775807)
  own_inst : (-9223372036854775808 ≤ x.own.inst ∧ x.own.inst ≤ 9223372036854775807)
  own_mbal : (-9223372036854775808 ≤ x.own.mbal ∧ x.own.mbal ≤ 9223372036854775807)
  own_bal : (-9223372036854775808 ≤ x.own.bal ∧ x.own.bal ≤ 9223372036854775807)
  own_val : x.own.val.size ≤ 9223372036854775807
  t_inst : (-9223372036854775808 ≤ x.t.inst ∧ x.t.inst ≤ 9223372036854775807)
  t_mbal : (-9223372036854775808 ≤ x.t.mbal ∧ x.t.mbal ≤ 9223372036854775807)
  t_best : (-9223372036854775808 ≤ x.t.best ∧ x.t.best ≤ 9223372036854775807)
  t_val : x.t.val.size ≤ 9223372036854775807
  t_seen : (-9223372036854775808 ≤ x.t.seen ∧ x.t.seen ≤ 9223372036854775807)
structure InPut_ (x : Put_) : Prop where
  l : (x.l.length ≤ 9223372036854775807 ∧ ∀ z ∈ x.l, InRcd z)
  i : (-9223372036854775808 ≤ x.i ∧ x.i ≤ 9223372036854775807)
structure InStl (x : Stl) : Prop where
  cells : (x.cells.length ≤ 9223372036854775807 ∧ ∀ z ∈ x.cells, InCel z)
  i : (-9223372036854775808 ≤ x.i ∧ x.i ≤ 9223372036854775807)
  left : (-9223372036854775808 ≤ x.left ∧ x.left ≤ 9223372036854775807)
  at_ : (-128 ≤ x.at_ ∧ x.at_ ≤ 127)
structure InRpl (x : Rpl) : Prop where
  slot : (-9223372036854775808 ≤ x.slot ∧ x.slot ≤ 9223372036854775807)
  key : (-9223372036854775808 ≤ x.key ∧ x.key ≤ 9223372036854775807)
  at_ : (-128 ≤ x.at_ ∧ x.at_ ≤ 127)
  tail : (-9223372036854775808 ≤ x.tail ∧ x.tail ≤ 9223372036854775807)
  l : (x.l.length ≤ 9223372036854775807 ∧ ∀ z ∈ x.l, InRcd z)
  cells : (x.cells.length ≤ 9223372036854775807 ∧ ∀ z ∈ x.cells, InCel z)
  i : (-9223372036854775808 ≤ x.i ∧ x.i ≤ 9223372036854775807)
  end_ : (-9223372036854775808 ≤ x.end_ ∧ x.end_ ≤ 9223372036854775807)
structure InFet (x : Fet) : Prop where
  block : (-9223372036854775808 ≤ x.block ∧ x.block ≤ 9223372036854775807)
  k : (-9223372036854775808 ≤ x.k ∧ x.k ≤ 9223372036854775807)
  parts : (x.parts.length ≤ 9223372036854775807 ∧ ∀ z ∈ x.parts, z.size ≤ 9223372036854775807)
structure InTxn (x : Txn) : Prop where
  writes : (x.writes.length ≤ 9223372036854775807 ∧ ∀ z ∈ x.writes, InBk z)
structure InNod (x : Nod) : Prop where
  num : (-9223372036854775808 ≤ x.num ∧ x.num ≤ 9223372036854775807)
  clock : (-9223372036854775808 ≤ x.clock ∧ x.clock ≤ 9223372036854775807)
  over : (-9223372036854775808 ≤ x.over ∧ x.over ≤ 9223372036854775807)
  key : (-9223372036854775808 ≤ x.key ∧ x.key ≤ 9223372036854775807)
  asked : (-9223372036854775808 ≤ x.asked ∧ x.asked ≤ 9223372036854775807)
  count : (-9223372036854775808 ≤ x.count ∧ x.count ≤ 9223372036854775807)
  slot : (-9223372036854775808 ≤ x.slot ∧ x.slot ≤ 9223372036854775807)
  head : (-9223372036854775808 ≤ x.head ∧ x.head ≤ 9223372036854775807)
  tail : (-9223372036854775808 ≤ x.tail ∧ x.tail ≤ 9223372036854775807)
  table_slots : (x.table.slots.length ≤ 9223372036854775807 ∧ ∀ z ∈ x.table.slots, InSlt z)
  table_holds : (x.table.holds.length ≤ 9223372036854775807 ∧ ∀ z ∈ x.table.holds, InHld z)
  table_queue : (x.table.queue.length ≤ 9223372036854775807 ∧ ∀ z ∈ x.table.queue, InHld z)
  done : (-9223372036854775808 ≤ x.done ∧ x.done ≤ 9223372036854775807)
  serial : (-9223372036854775808 ≤ x.serial ∧ x.serial ≤ 9223372036854775807)
  txn_writes : (x.txn.writes.length ≤ 9223372036854775807 ∧ ∀ z ∈ x.txn.writes, InBk z)
  pend : (x.pend.length ≤ 9223372036854775807 ∧ ∀ z ∈ x.pend, InBk z)
  watch : (x.watch.length ≤ 9223372036854775807 ∧ ∀ z ∈ x.watch, InWat z)
  giving : (x.giving.length ≤ 9223372036854775807 ∧ ∀ z ∈ x.giving, InSpn z)
  op_kind : (-128 ≤ x.op.kind ∧ x.op.kind ≤ 127)
  op_lo : (-9223372036854775808 ≤ x.op.lo ∧ x.op.lo ≤ 9223372036854775807)
  op_hi : (-9223372036854775808 ≤ x.op.hi ∧ x.op.hi ≤ 9223372036854775807)
  op_mode : (-128 ≤ x.op.mode ∧ x.op.mode ≤ 127)
  op_block : (-9223372036854775808 ≤ x.op.block ∧ x.op.block ≤ 9223372036854775807)
  op_text : x.op.text.size ≤ 9223372036854775807
  op_node : (-9223372036854775808 ≤ x.op.node ∧ x.op.node ≤ 9223372036854775807)
  op_key : (-9223372036854775808 ≤ x.op.key ∧ x.op.key ≤ 9223372036854775807)
  at_ : (-128 ≤ x.at_ ∧ x.at_ ≤ 127)
  p_node : (-9223372036854775808 ≤ x.p.node ∧ x.p.node ≤ 9223372036854775807)
  p_cmd : x.p.cmd.size ≤ 9223372036854775807
  p_at_ : (-128 ≤ x.p.at_ ∧ x.p.at_ ≤ 127)
  p_i : (-9223372036854775808 ≤ x.p.i ∧ x.p.i ≤ 9223372036854775807)
  p_own_inst : (-9223372036854775808 ≤ x.p.own.inst ∧ x.p.own.inst ≤ 9223372036854775807)
  p_own_mbal : (-9223372036854775808 ≤ x.p.own.mbal ∧ x.p.own.mbal ≤ 9223372036854775807)
  p_own_bal : (-9223372036854775808 ≤ x.p.own.bal ∧ x.p.own.bal ≤ 9223372036854775807)
  p_own_val : x.p.own.val.size ≤ 9223372036854775807
  p_t_inst : (-9223372036854775808 ≤ x.p.t.inst ∧ x.p.t.inst ≤ 9223372036854775807)
  p_t_mbal : (-9223372036854775808 ≤ x.p.t.mbal ∧ x.p.t.mbal ≤ 9223372036854775807)
  p_t_best : (-9223372036854775808 ≤ x.p.t.best ∧ x.p.t.best ≤ 9223372036854775807)
  p_t_val : x.p.t.val.size ≤ 9223372036854775807
  p_t_seen : (-9223372036854775808 ≤ x.p.t.seen ∧ x.p.t.seen ≤ 9223372036854775807)
  pu_l : (x.pu.l.length ≤ 9223372036854775807 ∧ ∀ z ∈ x.pu.l, InRcd z)
  pu_i : (-9223372036854775808 ≤ x.pu.i ∧ x.pu.i ≤ 9223372036854775807)
  st_cells : (x.st.cells.length ≤ 9223372036854775807 ∧ ∀ z ∈ x.st.cells, InCel z)
  st_i : (-9223372036854775808 ≤ x.st.i ∧ x.st.i ≤ 9223372036854775807)
  st_left : (-9223372036854775808 ≤ x.st.left ∧ x.st.left ≤ 9223372036854775807)
  st_at_ : (-128 ≤ x.st.at_ ∧ x.st.at_ ≤ 127)
  r_slot : (-9223372036854775808 ≤ x.r.slot ∧ x.r.slot ≤ 9223372036854775807)
  r_key : (-9223372036854775808 ≤ x.r.key ∧ x.r.key ≤ 9223372036854775807)
  r_at_ : (-128 ≤ x.r.at_ ∧ x.r.at_ ≤ 127)
  r_tail : (-9223372036854775808 ≤ x.r.tail ∧ x.r.tail ≤ 9223372036854775807)
  r_l : (x.r.l.length ≤ 9223372036854775807 ∧ ∀ z ∈ x.r.l, InRcd z)
  r_cells : (x.r.cells.length ≤ 9223372036854775807 ∧ ∀ z ∈ x.r.cells, InCel z)
  r_i : (-9223372036854775808 ≤ x.r.i ∧ x.r.i ≤ 9223372036854775807)
  r_end_ : (-9223372036854775808 ≤ x.r.end_ ∧ x.r.end_ ≤ 9223372036854775807)
  f_block : (-9223372036854775808 ≤ x.f.block ∧ x.f.block ≤ 9223372036854775807)
  f_k : (-9223372036854775808 ≤ x.f.k ∧ x.f.k ≤ 9223372036854775807)
  f_parts : (x.f.parts.length ≤ 9223372036854775807 ∧ ∀ z ∈ x.f.parts, z.size ≤ 9223372036854775807)
structure InAns (x : Ans) : Prop where
  e : (-9223372036854775808 ≤ x.e ∧ x.e ≤ 9223372036854775807)
  text : x.text.size ≤ 9223372036854775807
theorem wf_i64n {n : Int} (h : (Lit.int .i64 n).wf = true) : -9223372036854775808 ≤ n ∧ n ≤ 9223372036854775807 := by
  have h1 : IntKind.i64.min = -9223372036854775808 := rfl
  have h2 : IntKind.i64.max = 9223372036854775807 := rfl
  simp only [Lit.wf, Bool.and_eq_true, decide_eq_true_eq] at h
  omega
theorem plain_row {α : Type} (f : α → List V) (hf : ∀ a, ∀ x ∈ f a, Plain x) (l : List α) (b : Bool) : Plain (.sl (l.map f) b) := .sl _ _ fun r hr x hx => by
  obtain ⟨p, _, rfl⟩ := List.mem_map.1 hr
  exact hf p x hx
theorem pl_cons {x : V} {l : List V} (h : Plain x) (k : ∀ y ∈ l, Plain y) : ∀ y ∈ x :: l, Plain y := fun y hy => by
  rcases List.mem_cons.1 hy with rfl | hy
  · exact h
  · exact k y hy
theorem pl_nil : ∀ y ∈ ([] : List V), Plain y := fun y hy => absurd hy (by simp)
end Go.Proofs.YtkjihmlighigjaaGreat

namespace Go.Proofs.YtkjihmlighigjaaGreat
open Go.RowKit

abbrev geoV (g : Geo) : V := .agg [.int .i64 g.nodes, .int .i64 g.slots, .int .i64 g.blocks, .int .i64 g.per, .int .i64 g.journal, .int .i64 g.log, .int .i64 g.lease, .int .i64 g.wait]
end Go.Proofs.YtkjihmlighigjaaGreat

namespace Go.Proofs.YtkjihmlighigjaaGreat
open Go.RowKit

theorem nGet_con (s : ByteArray) (a n : Int) (hs : s.size ≤ maxLen) : PCon Tryz.prog 199 [.str s, .int .i64 a, .int .i64 n] (.tup [.int .i64 (getS s.data.toList a n).1, .int .i64 (getS s.data.toList a n).2]) := by
  refine ⟨?_, by (simp only [List.nil_append, List.cons_append, List.append_nil, List.forall_mem_cons, List.not_mem_nil, false_implies, implies_true, and_true, true_and, plain_agg, plain_tup, plain_int, plain_bool, plain_str, plain_nilp, plain_nilfn, plain_undef, plain_dev, plain_pr, plain_tx, plain_in, plain_cc])⟩
  refine con_of_calls Tryz.func199 (by decide) rfl (by (simp only [List.nil_append, List.cons_append, List.append_nil, List.forall_mem_cons, List.not_mem_nil, false_implies, implies_true, and_true, true_and, plain_agg, plain_tup, plain_int, plain_bool, plain_str, plain_nilp, plain_nilfn, plain_undef, plain_dev, plain_pr, plain_tx, plain_in, plain_cc])) fun w S vargs hS hv => ?_
  obtain ⟨u1, us, rfl, e1, hv⟩ := vrs_cons hv
  obtain ⟨u2, us, rfl, e2, hv⟩ := vrs_cons hv
  obtain ⟨u3, us, rfl, e3, hv⟩ := vrs_cons hv
  obtain rfl := vrs_nil hv
  obtain rfl := VR.str_inv e1
  obtain rfl := vr_int e2
  obtain rfl := vr_int e3
  refine (get_any s a n w hs).mono ?_
  rintro e w' ⟨rfl, rfl⟩
  exact ⟨_, rfl, vr_tup2 (.int _ _) (.int _ _), Below.refl _ _⟩
theorem gMay_con (g : Geo) (hw1 : -9223372036854775808 ≤ g.wait) (hw2 : g.wait ≤ 9223372036854775807) : PCon Tryz.prog 51 [geoV g] (.bool g.may) := by
  refine ⟨?_, by (simp only [List.nil_append, List.cons_append, List.append_nil, List.forall_mem_cons, List.not_mem_nil, false_implies, implies_true, and_true, true_and, plain_agg, plain_tup, plain_int, plain_bool, plain_str, plain_nilp, plain_nilfn, plain_undef, plain_dev, plain_pr, plain_tx, plain_in, plain_cc])⟩
  refine con_of_calls Tryz.func51 (by decide) rfl (by (simp only [List.nil_append, List.cons_append, List.append_nil, List.forall_mem_cons, List.not_mem_nil, false_implies, implies_true, and_true, true_and, plain_agg, plain_tup, plain_int, plain_bool, plain_str, plain_nilp, plain_nilfn, plain_undef, plain_dev, plain_pr, plain_tx, plain_in, plain_cc])) fun w S vargs hS hv => ?_
  obtain ⟨u1, us, rfl, e1, hv⟩ := vrs_cons hv
  obtain rfl := vrs_nil hv
  obtain rfl := vr_geo e1
  refine (May_any g w hw1 hw2).mono ?_
  rintro e w' ⟨rfl, hB⟩
  exact ⟨_, rfl, .bool _, hB⟩
def byV (c : UInt8) : List V := [.int .u8 (c.toNat : Int)]
theorem byV_pl (c : UInt8) : ∀ x ∈ byV c, Plain x := pl_cons (.int _ _) pl_nil
theorem bytesOf_by (b : Bs) : bytesOf (b.map byV) = some (b.map fun c => (c.toNat : Int)) := by
  induction b with
  | nil => rfl
  | cons c b ih => simp [bytesOf, byV, ih]
theorem vr_by {mu : Mu} {S : Stab} {w : World} {v : Value} {l : Bs} {fl : Bool} (hb : ∀ g i, S g i → g < w.heap.size) (h : VR mu S w (.sl (l.map byV) fl) v) : ∃ A c, v = .slice A l.length c ∧ Reads w w.heap.size 1 A l.length (bcells l) := by
  obtain ⟨A, c, hv, hr⟩ := vr_row (sz := 1) hb h (fun r hr => by obtain ⟨p, _, rfl⟩ := List.mem_map.1 hr; rfl) (by omega)
  replace hv : v = .slice A l.length c := by rw [hv, List.length_map]
  refine ⟨A, c, hv, by simp [bcells], fun hn => ?_⟩
  obtain ⟨ad, hA, hlt, hc⟩ := hr (by simpa using hn)
  refine ⟨ad, hA, hlt, fun j u hu => ?_⟩
  have hj : j < l.length := by
    rcases Nat.lt_or_ge j l.length with h | h
    · exact h
    · rw [List.getElem?_eq_none (by simpa [bcells] using h)] at hu; cases hu
  have hu' : u = .int .u8 (l[j].toNat : Int) := by
    simp [bcells, hj] at hu
    exact hu.symm
  subst hu'
  obtain ⟨u, h1, h2⟩ := hc j (by simpa using hj) 0 (by simp [byV])
  rw [show ad.add j = ad.add (j * 1 + 0) from congrArg _ (by omega), h1]
  simp only [List.getElem_map] at h2
  rw [VR.int_inv h2]
def putR (b : Bs) (n : Int) (l : List Int) : Bs × Int := match putS b n l with
  | none => ([], 2)
  | some x => (x, 0)
theorem nPut_f (b : Bs) (n : Int) (l : List Int) (hbd : b.length + 6 * l.length ≤ 1000000000) : FCon Tryz.prog 201 [.sl (b.map byV) false, .int .i64 n, .sl (l.map inV) false] (.tup [.sl ((putR b n l).1.map byV) false, .int .i64 (putR b n l).2]) := by
  have hpl : Plain (.tup [.sl ((putR b n l).1.map byV) false, .int .i64 (putR b n l).2]) := .tup _ (pl_cons (plain_row _ byV_pl _ _) (pl_cons (.int _ _) pl_nil))
  refine ⟨⟨_, Tryz.func201, by decide, rfl⟩, fun w S vargs hS hv => ?_⟩
  obtain ⟨u1, us, rfl, e1, hv⟩ := vrs_cons hv
  obtain ⟨u2, us, rfl, e2, hv⟩ := vrs_cons hv
  obtain ⟨u3, us, rfl, e3, hv⟩ := vrs_cons hv
  obtain rfl := vrs_nil hv
  obtain rfl := vr_int e2
  obtain ⟨A1, c1, rfl, r1⟩ := vr_by hS e1
  obtain ⟨A3, c3, rfl, r3⟩ := vr_in hS e3
  refine (Put_any A1 A3 c1 c3 n b l w hbd r1 r3).mono ?_
  rintro e w' h
  unfold putR at hpl ⊢
  cases hp : putS b n l with
  | none =>
    rw [hp] at h hpl
    obtain ⟨rfl, hB⟩ := h
    exact ⟨_, fun g i => w.heap.size ≤ g ∧ g < w'.heap.size, rfl, hpl, vr_tup2 (.sl0 false none 0 (by simp)) (.int _ _), fun _ _ h => h, hB⟩
  | some x =>
    rw [hp] at h hpl
    obtain ⟨v, rfl, hrow, hB⟩ := h
    refine ⟨_, fun g i => w.heap.size ≤ g ∧ g < w'.heap.size, rfl, hpl, vr_tup2 ?_ (.int _ _), fun _ _ h => h, hB⟩
    refine vr_own hrow _ (by simp) (fun r hr => by obtain ⟨p, _, rfl⟩ := List.mem_map.1 hr; rfl) (fun i hi j hj => ?_) (fun g i h3 h4 => ⟨h3, h4⟩)
    have hi' : i < x.length := by simpa using hi
    have hj0 : j = 0 := by simpa [byV] using hj
    subst hj0
    refine ⟨.int .u8 (x[i].toNat : Int), ?_, rfl, ?_⟩
    · rw [Nat.mul_one, Nat.add_zero]
      simp [bcells, hi']
    · simp only [List.getElem_map, byV, List.getElem_cons_zero]
      exact .int _ _
theorem FCon.pcon {P : Program} {g : FuncId} {args : List V} {r : V} (h : FCon P g args r) (ha : ∀ x ∈ args, Plain x) : PCon P g args r := by
  refine ⟨⟨h.1, fun w S vargs hS hv => (h.2 w S vargs hS hv).mono ?_⟩, ha⟩
  rintro e w' ⟨v, S', rfl, hp, hr, hs, hB⟩
  exact ⟨v, r, fun g i => S g i ∨ S' g i, rfl, rfl, hp, hr.mono (fun _ _ h => h) (fun _ _ h => .inr h) (fun _ _ _ => rfl), fun _ _ h => .inl h, fun _ _ h => h.imp id fun h => (hs _ _ h).1, fun g i h => h.elim (fun h => Nat.lt_of_lt_of_le (hS g i h) hB.size) fun h => (hs _ _ h).2, hB⟩
end Go.Proofs.YtkjihmlighigjaaGreat

namespace Go.Proofs.YtkjihmlighigjaaGreat
open Go.RowKit

def i64b (a : Int) : Bool := decide (-9223372036854775808 ≤ a) && decide (a ≤ 9223372036854775807)
theorem i64b_d {a : Int} (h : i64b a = true) : -9223372036854775808 ≤ a ∧ a ≤ 9223372036854775807 := by
  obtain ⟨h1, h2⟩ := and_tt' h
  exact ⟨of_decide_eq_true h1, of_decide_eq_true h2⟩
def inRD (r : List V) : Int := asI (r.headD .undef)
def byRD (r : List V) : UInt8 := UInt8.ofNat (inRD r).toNat
def inRB (r : List V) : Bool := match r with
  | [.int .i64 _] => true
  | _ => false
def byRB (r : List V) : Bool := match r with
  | [.int .u8 n] => decide (0 ≤ n) && decide (n < 256)
  | _ => false
theorem inRB_h {r : List V} (h : inRB r = true) : inV (inRD r) = r := by
  unfold inRB at h; split at h
  · rfl
  · cases h
theorem byRB_h {r : List V} (h : byRB r = true) : byV (byRD r) = r := by
  unfold byRB at h; split at h
  · rename_i n
    obtain ⟨h1, h2⟩ := and_tt' h
    have h1 := of_decide_eq_true h1
    have h2 := of_decide_eq_true h2
    show [V.int .u8 ((UInt8.ofNat n.toNat).toNat : Int)] = _
    have : (UInt8.ofNat n.toNat).toNat = n.toNat := by
      rw [UInt8.toNat_ofNat']; omega
    rw [this, Int.toNat_of_nonneg h1]
  · cases h
theorem rows_h {α : Type} {enc : α → List V} {d : List V → α} {b : List V → Bool} (hb : ∀ r, b r = true → enc (d r) = r) {rs : List (List V)} (h : rs.all b = true) : (rs.map d).map enc = rs := by
  rw [List.map_map]
  conv => rhs; rw [← List.map_id rs]
  exact List.map_congr_left fun r hr => hb r (List.all_eq_true.1 h r hr)
theorem rows_all {α : Type} {enc : α → List V} {b : List V → Bool} (hb : ∀ a, b (enc a) = true) (l : List α) : (l.map enc).all b = true := List.all_eq_true.2 fun r hr => by obtain ⟨a, _, rfl⟩ := List.mem_map.1 hr; exact hb a
theorem inRB_v (a : Int) : inRB (inV a) = true := rfl
theorem byRB_v (a : UInt8) : byRB (byV a) = true := by
  show (decide (0 ≤ (a.toNat : Int)) && decide ((a.toNat : Int) < 256)) = true
  have := a.toNat_lt
  rw [decide_eq_true (by omega), decide_eq_true (by omega)]; rfl
def geoOf (x : G_Geo) : Geo := ⟨x.Nodes, x.Slots, x.Blocks, x.Per, x.Journal, x.Log, x.Lease, x.Wait⟩
def geo_May (L : Nat) (x : G_Geo) : Option Bool := bif i64b x.Wait then some (geoOf x).may else none
theorem geo_May_c (L : Nat) : Ctr Tryz.prog 51 false (caC cd_Geo caN) cdB (fun a => geo_May L a.1) := by
  intro a r hp h
  obtain ⟨h1, h2⟩ := bif_some h
  cases h2
  obtain ⟨k1, k2⟩ := i64b_d h1
  exact ⟨(gMay_con (geoOf a.1) k1 k2).1, .bool _, nofun⟩
def num_Get (L : Nat) (s : ByteArray) (a n : Int) : Option (Int × Int × Unit) := bif Nat.ble s.size maxLen then some ((getS s.data.toList a n).1, (getS s.data.toList a n).2, ()) else none
theorem num_Get_c (L : Nat) : Ctr Tryz.prog 199 false (caC cdS (caC (cdI .i64) (caC (cdI .i64) caN))) (cdT (caC (cdI .i64) (caC (cdI .i64) caN))) (fun a => num_Get L a.1 a.2.1 a.2.2.1) := by
  intro a r hp h
  obtain ⟨h1, h2⟩ := bif_some h
  cases h2
  exact ⟨(nGet_con a.1 a.2.1 a.2.2.1 (Nat.le_of_ble_eq_true h1)).1, .tup _ (pl_cons (.int _ _) (pl_cons (.int _ _) pl_nil)), nofun⟩
def num_Put (L : Nat) (b : List (List V)) (n : Int) (l : List (List V)) : Option (List (List V) × Int × Unit) :=
  bif b.all byRB && (l.all inRB && Nat.ble (b.length + 6 * l.length) 1000000000) then some ((putR (b.map byRD) n (l.map inRD)).1.map byV, (putR (b.map byRD) n (l.map inRD)).2, ()) else none
theorem num_Put_c (L : Nat) : Ctr Tryz.prog 201 true (caC cdR (caC (cdI .i64) (caC cdR caN))) (cdT (caC cdR (caC (cdI .i64) caN))) (fun a => num_Put L a.1 a.2.1 a.2.2.1) := by
  rintro ⟨b, n, l, _⟩ r hp h
  obtain ⟨h1, h2⟩ := bif_some h
  cases h2
  obtain ⟨h1, h3⟩ := and_tt' h1
  obtain ⟨h3, h4⟩ := and_tt' h3
  have e1 : (b.map byRD).map byV = b := rows_h (fun r hr => byRB_h hr) h1
  have e2 : (l.map inRD).map inV = l := rows_h (fun r hr => inRB_h hr) h3
  have hf := nPut_f (b.map byRD) n (l.map inRD) (by rw [List.length_map, List.length_map]; exact Nat.le_of_ble_eq_true h4)
  rw [e1, e2] at hf
  refine ⟨(hf.pcon hp).1, .tup _ (pl_cons (plain_row _ byV_pl _ _) (pl_cons (.int _ _) pl_nil)), fun _ => hf⟩
theorem vr_tup3 {mu : Mu} {S : Stab} {w : World} {x y z : V} {u v t : Value} (h1 : VR mu S w x u) (h2 : VR mu S w y v) (h3 : VR mu S w z t) : VR mu S w (.tup [x, y, z]) (.tuple #[u, v, t]) := .tup [x, y, z] [u, v, t] rfl fun j hj hj' => by
  match j, hj with
  | 0, _ => exact h1
  | 1, _ => exact h2
  | 2, _ => exact h3
def makeF (k : Int) (rest : ByteArray) (ws l : List (List V)) : Option (ByteArray × Int × Unit) :=
  bif decide (k ≤ 127) && (Nat.ble rest.size 1000000 && (Nat.ble l.length 1000000 && (Nat.ble ws.length 1000000 && (ws.all inRB && l.all inRB)))) then
    some (mkS (makeR k rest.data.toList (ws.map inRD) (l.map inRD)).1, (makeR k rest.data.toList (ws.map inRD) (l.map inRD)).2, ()) else none
theorem make_ctr {P : Program} {i : Nat} {fn : Func} (hf : P.funcs[i]? = some fn) (hn : (fn.name == "runtime.NumGoroutine") = false) (hb : fn.body.isNone = false)
    (h : ∀ (k : Int) (rest : ByteArray) (Aw Al : Option Addr) (cw cl : Nat) (ws l : List Int) (w : World), k ≤ 127 → rest.size ≤ 1000000 → l.length ≤ 1000000 → ws.length ≤ 1000000 → Reads w w.heap.size 1 Aw ws.length (icells ws) → Reads w w.heap.size 1 Al l.length (icells l) →
      Calls P i #[.int .i8 k, .string rest, .slice Aw ws.length cw, .slice Al l.length cl] w fun e w' => MakePost w (makeR k rest.data.toList ws l) e w') :
    Ctr P i false (caC (cdI .i8) (caC cdS (caC cdR (caC cdR caN)))) (cdT (caC cdS (caC (cdI .i64) caN))) (fun a => makeF a.1 a.2.1 a.2.2.1 a.2.2.2.1) := by
  rintro ⟨k, rest, ws, l, _⟩ r hp q
  obtain ⟨q1, q2⟩ := bif_some q
  cases q2
  obtain ⟨h1, q1⟩ := and_tt' q1
  obtain ⟨h2, q1⟩ := and_tt' q1
  obtain ⟨h3, q1⟩ := and_tt' q1
  obtain ⟨h4, q1⟩ := and_tt' q1
  obtain ⟨h5, h6⟩ := and_tt' q1
  have e1 : (ws.map inRD).map inV = ws := rows_h (fun r hr => inRB_h hr) h5
  have e2 : (l.map inRD).map inV = l := rows_h (fun r hr => inRB_h hr) h6
  have hpl : Plain (.tup [.str (mkS (makeR k rest.data.toList (ws.map inRD) (l.map inRD)).1), .int .i64 (makeR k rest.data.toList (ws.map inRD) (l.map inRD)).2]) := .tup _ (pl_cons (.str _) (pl_cons (.int _ _) pl_nil))
  refine ⟨?_, hpl, nofun⟩
  show Con P i [.int .i8 k, .str rest, .sl ws false, .sl l false] (· = .tup [.str (mkS (makeR k rest.data.toList (ws.map inRD) (l.map inRD)).1), .int .i64 (makeR k rest.data.toList (ws.map inRD) (l.map inRD)).2])
  refine con_of_calls hf hn hb hpl fun w S vargs hS hv => ?_
  obtain ⟨u1, us, rfl, v1, hv⟩ := vrs_cons hv
  obtain ⟨u2, us, rfl, v2, hv⟩ := vrs_cons hv
  obtain ⟨u3, us, rfl, v3, hv⟩ := vrs_cons hv
  obtain ⟨u4, us, rfl, v4, hv⟩ := vrs_cons hv
  obtain rfl := vrs_nil hv
  obtain rfl := vr_int v1
  obtain rfl := VR.str_inv v2
  rw [← e1] at v3
  rw [← e2] at v4
  obtain ⟨A3, c3, rfl, r3⟩ := vr_in hS v3
  obtain ⟨A4, c4, rfl, r4⟩ := vr_in hS v4
  refine (h k rest A3 A4 c3 c4 _ _ w (of_decide_eq_true h1) (Nat.le_of_ble_eq_true h2) (by rw [List.length_map]; exact Nat.le_of_ble_eq_true h3) (by rw [List.length_map]; exact Nat.le_of_ble_eq_true h4) r3 r4).mono ?_
  rintro e w' ⟨rfl, hB⟩
  exact ⟨_, rfl, vr_tup2 (.str _) (.int _ _), hB⟩
def ofF (k : Int) (s : ByteArray) : Option (ByteArray × Int × Unit) := bif Nat.ble s.size 1000000000 then some (mkS (ofR k s.data.toList).1, (ofR k s.data.toList).2, ()) else none
theorem of_ctr {P : Program} {i : Nat} {fn : Func} (hf : P.funcs[i]? = some fn) (hn : (fn.name == "runtime.NumGoroutine") = false) (hb : fn.body.isNone = false)
    (h : ∀ (k : Int) (s : ByteArray) (w : World), s.size ≤ 1000000000 → Calls P i #[.int .i8 k, .string s] w fun e w' => e = .returned (.tuple #[.string (mkS (ofR k s.data.toList).1), .int .i64 (ofR k s.data.toList).2]) ∧ Below w.heap.size w w') :
    Ctr P i false (caC (cdI .i8) (caC cdS caN)) (cdT (caC cdS (caC (cdI .i64) caN))) (fun a => ofF a.1 a.2.1) := by
  rintro ⟨k, s, _⟩ r hp q
  obtain ⟨q1, q2⟩ := bif_some q
  cases q2
  have hpl : Plain (.tup [.str (mkS (ofR k s.data.toList).1), .int .i64 (ofR k s.data.toList).2]) := .tup _ (pl_cons (.str _) (pl_cons (.int _ _) pl_nil))
  refine ⟨?_, hpl, nofun⟩
  refine con_of_calls hf hn hb hpl fun w S vargs hS hv => ?_
  obtain ⟨u1, us, rfl, v1, hv⟩ := vrs_cons hv
  obtain ⟨u2, us, rfl, v2, hv⟩ := vrs_cons hv
  obtain rfl := vrs_nil hv
  obtain rfl := vr_int v1
  obtain rfl := VR.str_inv v2
  refine (h k s w (Nat.le_of_ble_eq_true q1)).mono ?_
  rintro e w' ⟨rfl, hB⟩
  exact ⟨_, rfl, vr_tup2 (.str _) (.int _ _), hB⟩
def sealF (k : Int) (s : ByteArray) : Option (ByteArray × Int × Unit) := bif decide (k ≤ 127) && Nat.ble s.size 1000000000 then some (mkS (sealR k s.data.toList).1, (sealR k s.data.toList).2, ()) else none
theorem seal_ctr {P : Program} {i : Nat} {fn : Func} (hf : P.funcs[i]? = some fn) (hn : (fn.name == "runtime.NumGoroutine") = false) (hb : fn.body.isNone = false)
    (h : ∀ (k : Int) (s : ByteArray) (w : World), k ≤ 127 → s.size ≤ 1000000000 → Calls P i #[.int .i8 k, .string s] w fun e w' => e = .returned (.tuple #[.string (mkS (sealR k s.data.toList).1), .int .i64 (sealR k s.data.toList).2]) ∧ Below w.heap.size w w') :
    Ctr P i false (caC (cdI .i8) (caC cdS caN)) (cdT (caC cdS (caC (cdI .i64) caN))) (fun a => sealF a.1 a.2.1) := by
  rintro ⟨k, s, _⟩ r hp q
  obtain ⟨q1, q2⟩ := bif_some q
  cases q2
  obtain ⟨q1, q3⟩ := and_tt' q1
  have hpl : Plain (.tup [.str (mkS (sealR k s.data.toList).1), .int .i64 (sealR k s.data.toList).2]) := .tup _ (pl_cons (.str _) (pl_cons (.int _ _) pl_nil))
  refine ⟨?_, hpl, nofun⟩
  refine con_of_calls hf hn hb hpl fun w S vargs hS hv => ?_
  obtain ⟨u1, us, rfl, v1, hv⟩ := vrs_cons hv
  obtain ⟨u2, us, rfl, v2, hv⟩ := vrs_cons hv
  obtain rfl := vrs_nil hv
  obtain rfl := vr_int v1
  obtain rfl := VR.str_inv v2
  refine (h k s w (of_decide_eq_true q1) (Nat.le_of_ble_eq_true q3)).mono ?_
  rintro e w' ⟨rfl, hB⟩
  exact ⟨_, rfl, vr_tup2 (.str _) (.int _ _), hB⟩
def fieldsF (k : Int) (s : ByteArray) (ws : List (List V)) : Option (List (List V) × ByteArray × Int × Unit) :=
  bif Nat.ble s.size 1000000000 && (Nat.ble ws.length 1000000 && ws.all inRB) then
    some ((fieldsR k s.data.toList (ws.map inRD)).1.map inV, mkS (fieldsR k s.data.toList (ws.map inRD)).2.1, (fieldsR k s.data.toList (ws.map inRD)).2.2, ()) else none
theorem inV_pl (a : Int) : ∀ x ∈ inV a, Plain x := pl_cons (.int _ _) pl_nil
theorem fields_ctr {P : Program} {i : Nat} {fn : Func} (hf : P.funcs[i]? = some fn) (hn : (fn.name == "runtime.NumGoroutine") = false) (hb : fn.body.isNone = false)
    (h : ∀ (k : Int) (s : ByteArray) (Aw : Option Addr) (cw : Nat) (ws : List Int) (w : World), s.size ≤ 1000000000 → ws.length ≤ 1000000 → Reads w w.heap.size 1 Aw ws.length (icells ws) →
      Calls P i #[.int .i8 k, .string s, .slice Aw ws.length cw] w fun e w' => FieldsPost w (fieldsR k s.data.toList ws) e w') :
    Ctr P i true (caC (cdI .i8) (caC cdS (caC cdR caN))) (cdT (caC cdR (caC cdS (caC (cdI .i64) caN)))) (fun a => fieldsF a.1 a.2.1 a.2.2.1) := by
  rintro ⟨k, s, ws, _⟩ r hp q
  obtain ⟨q1, q2⟩ := bif_some q
  cases q2
  obtain ⟨q1, q3⟩ := and_tt' q1
  obtain ⟨q3, q4⟩ := and_tt' q3
  have e1 : (ws.map inRD).map inV = ws := rows_h (fun r hr => inRB_h hr) q4
  have hpl : Plain (.tup [.sl ((fieldsR k s.data.toList (ws.map inRD)).1.map inV) false, .str (mkS (fieldsR k s.data.toList (ws.map inRD)).2.1), .int .i64 (fieldsR k s.data.toList (ws.map inRD)).2.2]) := .tup _ (pl_cons (plain_row _ inV_pl _ _) (pl_cons (.str _) (pl_cons (.int _ _) pl_nil)))
  have hF : FCon P i [.int .i8 k, .str s, .sl ws false] (.tup [.sl ((fieldsR k s.data.toList (ws.map inRD)).1.map inV) false, .str (mkS (fieldsR k s.data.toList (ws.map inRD)).2.1), .int .i64 (fieldsR k s.data.toList (ws.map inRD)).2.2]) := by
    refine ⟨⟨fn, hf, hn, hb⟩, fun w S vargs hS hv => ?_⟩
    obtain ⟨u1, us, rfl, v1, hv⟩ := vrs_cons hv
    obtain ⟨u2, us, rfl, v2, hv⟩ := vrs_cons hv
    obtain ⟨u3, us, rfl, v3, hv⟩ := vrs_cons hv
    obtain rfl := vrs_nil hv
    obtain rfl := vr_int v1
    obtain rfl := VR.str_inv v2
    rw [← e1] at v3
    obtain ⟨A3, c3, rfl, r3⟩ := vr_in hS v3
    refine (h k s A3 c3 _ w (Nat.le_of_ble_eq_true q1) (by rw [List.length_map]; exact Nat.le_of_ble_eq_true q3) r3).mono ?_
    rintro e w' ⟨v, rfl, hrow, hB⟩
    generalize fieldsR k s.data.toList (ws.map inRD) = R at *
    refine ⟨_, fun g i => w.heap.size ≤ g ∧ g < w'.heap.size, rfl, hpl, vr_tup3 ?_ (.str _) (.int _ _), fun _ _ h => h, hB⟩
    refine vr_own hrow _ (List.length_map _) (fun r hr => by obtain ⟨p, _, rfl⟩ := List.mem_map.1 hr; rfl) (fun i hi j hj => ?_) (fun g i h3 h4 => ⟨h3, h4⟩)
    have hi' : i < R.1.length := by simpa using hi
    have hj0 : j = 0 := by simpa [inV] using hj
    subst hj0
    refine ⟨.int .i64 R.1[i], ?_, rfl, ?_⟩
    · rw [Nat.mul_one, Nat.add_zero]
      simp [icells, hi']
    · simp only [List.getElem_map, inV, List.getElem_cons_zero]
      exact .int _ _
  exact ⟨(hF.pcon hp).1, hpl, fun _ => hF⟩
def seal_Make (L : Nat) := makeF
theorem seal_Make_c (L : Nat) : Ctr Tryz.prog 246 false (caC (cdI .i8) (caC cdS (caC cdR (caC cdR caN)))) (cdT (caC cdS (caC (cdI .i64) caN))) (fun a => seal_Make L a.1 a.2.1 a.2.2.1 a.2.2.2.1) := make_ctr Tryz.func246 (by decide) rfl Make_any
def ref03_Make (L : Nat) := makeF
theorem ref03_Make_c (L : Nat) : Ctr Tryz.prog 67 false (caC (cdI .i8) (caC cdS (caC cdR (caC cdR caN)))) (cdT (caC cdS (caC (cdI .i64) caN))) (fun a => ref03_Make L a.1 a.2.1 a.2.2.1 a.2.2.2.1) := make_ctr Tryz.func67 (by decide) rfl rMake_any
def ref03_Of (L : Nat) := ofF
theorem ref03_Of_c (L : Nat) : Ctr Tryz.prog 165 false (caC (cdI .i8) (caC cdS caN)) (cdT (caC cdS (caC (cdI .i64) caN))) (fun a => ref03_Of L a.1 a.2.1) := of_ctr Tryz.func165 (by decide) rfl rOf_any
def seal_Seal (L : Nat) := sealF
theorem seal_Seal_c (L : Nat) : Ctr Tryz.prog 238 false (caC (cdI .i8) (caC cdS caN)) (cdT (caC cdS (caC (cdI .i64) caN))) (fun a => seal_Seal L a.1 a.2.1) := seal_ctr Tryz.func238 (by decide) rfl fun k s w h _ => Seal_any k s w h
def ref03_Seal (L : Nat) := sealF
theorem ref03_Seal_c (L : Nat) : Ctr Tryz.prog 114 false (caC (cdI .i8) (caC cdS caN)) (cdT (caC cdS (caC (cdI .i64) caN))) (fun a => ref03_Seal L a.1 a.2.1) := seal_ctr Tryz.func114 (by decide) rfl fun k s w h h2 => rSeal_any k s w h (by omega)
def seal_Fields (L : Nat) := fieldsF
theorem seal_Fields_c (L : Nat) : Ctr Tryz.prog 155 true (caC (cdI .i8) (caC cdS (caC cdR caN))) (cdT (caC cdR (caC cdS (caC (cdI .i64) caN)))) (fun a => seal_Fields L a.1 a.2.1 a.2.2.1) := fields_ctr Tryz.func155 (by decide) rfl Fields_any
def ref03_Fields (L : Nat) := fieldsF
theorem ref03_Fields_c (L : Nat) : Ctr Tryz.prog 127 true (caC (cdI .i8) (caC cdS (caC cdR caN))) (cdT (caC cdR (caC cdS (caC (cdI .i64) caN)))) (fun a => ref03_Fields L a.1 a.2.1 a.2.2.1) := fields_ctr Tryz.func127 (by decide) rfl rFields_any
end Go.Proofs.YtkjihmlighigjaaGreat

namespace Go.Proofs.YtkjihmlighigjaaGreat
open Go.RowKit

theorem vr_rec {mu : Mu} {S : Stab} {w : World} {i m b : Int} {s : ByteArray} {v : Value} (h : VR mu S w (.agg [.int .i64 i, .int .i64 m, .int .i64 b, .str s]) v) : v = recV i m b s := by
  obtain ⟨vs, rfl, h1, _⟩ := VR.agg_inv h
  obtain ⟨u, us, rfl, e1, h1⟩ := vrs_cons h1
  obtain ⟨u2, us, rfl, e2, h1⟩ := vrs_cons h1
  obtain ⟨u3, us, rfl, e3, h1⟩ := vrs_cons h1
  obtain ⟨u4, us, rfl, e4, h1⟩ := vrs_cons h1
  rw [vrs_nil h1, vr_int e1, vr_int e2, vr_int e3, VR.str_inv e4]
theorem rec_vr {mu : Mu} {S : Stab} {w : World} (i m b : Int) (s : ByteArray) : VR mu S w (.agg [.int .i64 i, .int .i64 m, .int .i64 b, .str s]) (recV i m b s) := by
  refine .agg _ [.int .i64 i, .int .i64 m, .int .i64 b, .string s] rfl (by simp [Value.oneCell']) fun j hj hj' => ?_
  match j, hj with
  | 0, _ => exact .int _ _
  | 1, _ => exact .int _ _
  | 2, _ => exact .int _ _
  | 3, _ => exact .str _
def ballot_Bytes (L : Nat) (x : G_Rec) : Option (ByteArray × Int × Unit) := bif Nat.ble x.Val.size 1000000 then some (mkS (bytesR x.Inst x.Mbal x.Bal x.Val.data.toList).1, (bytesR x.Inst x.Mbal x.Bal x.Val.data.toList).2, ()) else none
theorem ballot_Bytes_c (L : Nat) : Ctr Tryz.prog 184 false (caC cd_Rec caN) (cdT (caC cdS (caC (cdI .i64) caN))) (fun a => ballot_Bytes L a.1) := by
  rintro ⟨x, _⟩ r hp q
  obtain ⟨q1, q2⟩ := bif_some q
  cases q2
  have hpl : Plain (.tup [.str (mkS (bytesR x.Inst x.Mbal x.Bal x.Val.data.toList).1), .int .i64 (bytesR x.Inst x.Mbal x.Bal x.Val.data.toList).2]) := .tup _ (pl_cons (.str _) (pl_cons (.int _ _) pl_nil))
  refine ⟨?_, hpl, nofun⟩
  refine con_of_calls Tryz.func184 (by decide) rfl hpl fun w S vargs hS hv => ?_
  obtain ⟨u1, us, rfl, v1, hv⟩ := vrs_cons hv
  obtain rfl := vrs_nil hv
  obtain rfl := vr_rec v1
  refine (bl_Bytes_any _ _ _ _ w (Nat.le_of_ble_eq_true q1)).mono ?_
  rintro e w' ⟨rfl, hB⟩
  exact ⟨_, rfl, vr_tup2 (.str _) (.int _ _), hB⟩
def ballot_Read (L : Nat) (s : ByteArray) : Option (G_Rec × Int × Unit) := bif Nat.ble s.size 1000000000 then some (⟨(readR s.data.toList).1.1, (readR s.data.toList).1.2.1, (readR s.data.toList).1.2.2.1, mkS (readR s.data.toList).1.2.2.2⟩, (readR s.data.toList).2, ()) else none
theorem ballot_Read_c (L : Nat) : Ctr Tryz.prog 181 false (caC cdS caN) (cdT (caC cd_Rec (caC (cdI .i64) caN))) (fun a => ballot_Read L a.1) := by
  rintro ⟨s, _⟩ r hp q
  obtain ⟨q1, q2⟩ := bif_some q
  cases q2
  have hpl : Plain (.tup [.agg [.int .i64 (readR s.data.toList).1.1, .int .i64 (readR s.data.toList).1.2.1, .int .i64 (readR s.data.toList).1.2.2.1, .str (mkS (readR s.data.toList).1.2.2.2)], .int .i64 (readR s.data.toList).2]) :=
    .tup _ (pl_cons (.agg _ (pl_cons (.int _ _) (pl_cons (.int _ _) (pl_cons (.int _ _) (pl_cons (.str _) pl_nil))))) (pl_cons (.int _ _) pl_nil))
  refine ⟨?_, hpl, nofun⟩
  refine con_of_calls Tryz.func181 (by decide) rfl hpl fun w S vargs hS hv => ?_
  obtain ⟨u1, us, rfl, v1, hv⟩ := vrs_cons hv
  obtain rfl := vrs_nil hv
  obtain rfl := VR.str_inv v1
  refine (bl_Read_any _ w (Nat.le_of_ble_eq_true q1)).mono ?_
  rintro e w' ⟨rfl, hB⟩
  exact ⟨_, rfl, vr_tup2 (rec_vr _ _ _ _) (.int _ _), hB⟩
end Go.Proofs.YtkjihmlighigjaaGreat

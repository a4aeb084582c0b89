/- Plain mathematics of layer 4: geometries, and where everything stands. Nothing of the program. -/
import Derived.Test.YtfonaceldfjneaaPlain
namespace Go.Proofs.Ytfonaceldfjneaa

structure Geo where
  nodes : Int
  slots : Int
  blocks : Int
  per : Int
  journal : Int
  log : Int
  lease : Int
  wait : Int

abbrev Geo.v (g : Geo) : Value := .agg #[.int .i64 g.nodes, .int .i64 g.slots, .int .i64 g.blocks, .int .i64 g.per, .int .i64 g.journal, .int .i64 g.log, .int .i64 g.lease, .int .i64 g.wait]

structure Geo.OK (g : Geo) : Prop where
  n1 : 1 ≤ g.nodes
  n2 : g.nodes ≤ 16
  s1 : 1 ≤ g.slots
  s2 : g.slots ≤ g.nodes
  b1 : 1 ≤ g.blocks
  b2 : g.blocks ≤ 64
  p1 : 1 ≤ g.per
  p2 : g.per ≤ 8
  j1 : g.per + 2 ≤ g.journal
  j2 : g.journal ≤ 64
  l1 : 8 * g.slots ≤ g.log
  l2 : g.log ≤ 512
  e1 : 1 ≤ g.lease
  e2 : g.lease < g.wait
  e3 : g.wait ≤ 1048576

def Geo.may (g : Geo) : Bool := decide (1 ≤ g.nodes ∧ g.nodes ≤ 16 ∧ 1 ≤ g.slots ∧ g.slots ≤ g.nodes ∧ 1 ≤ g.blocks ∧ g.blocks ≤ 64 ∧ 1 ≤ g.per ∧ g.per ≤ 8 ∧ g.per + 2 ≤ g.journal ∧ g.journal ≤ 64 ∧ 8 * g.slots ≤ g.log ∧ g.log ≤ 512 ∧ 1 ≤ g.lease ∧ g.lease < g.wait ∧ g.wait ≤ 1048576)
theorem Geo.may_ok {g : Geo} (h : g.may = true) : g.OK := by
  obtain ⟨h1, h2, h3, h4, h5, h6, h7, h8, h9, h10, h11, h12, h13, h14, h15⟩ := of_decide_eq_true h
  exact ⟨h1, h2, h3, h4, h5, h6, h7, h8, h9, h10, h11, h12, h13, h14, h15⟩
theorem Geo.ok_may {g : Geo} (h : g.OK) : g.may = true := decide_eq_true ⟨h.1, h.2, h.3, h.4, h.5, h.6, h.7, h.8, h.9, h.10, h.11, h.12, h.13, h.14, h.15⟩

/-- a stretch of sectors: first, many, kind, per -/
structure Rg where
  first : Int
  many : Int
  kind : Int
  per : Int

/-- where the stretches begin -/
def Geo.atLog (g : Geo) : Int := 1 + 2 * g.nodes
def Geo.atJ (g : Geo) : Int := 1 + 2 * g.nodes + g.log
def Geo.atD (g : Geo) : Int := 1 + 2 * g.nodes + g.log + g.slots * (1 + g.journal)
def Geo.total (g : Geo) : Int := 1 + 2 * g.nodes + g.log + g.slots * (1 + g.journal) + g.blocks * g.per
def Geo.rgs (g : Geo) : List Rg :=
  [⟨0, 1, 1, 1⟩, ⟨1, g.nodes, 2, 1⟩, ⟨1 + g.nodes, g.nodes, 3, 1⟩, ⟨1 + g.nodes + g.nodes, g.log, 4, 1⟩, ⟨1 + g.nodes + g.nodes + g.log, g.slots * (1 + g.journal), 6, 1 + g.journal⟩,
   ⟨1 + g.nodes + g.nodes + g.log + g.slots * (1 + g.journal), g.blocks * g.per, 7, g.per⟩]

theorem mul_bd {a b : Int} {A B : Int} (h0 : 0 ≤ a) (h1 : a ≤ A) (h2 : 0 ≤ b) (h3 : b ≤ B) : 0 ≤ a * b ∧ a * b ≤ A * B :=
  ⟨Int.mul_nonneg h0 h2, Int.mul_le_mul h1 h3 h2 (by omega)⟩
theorem Geo.OK.sj {g : Geo} (h : g.OK) : 0 ≤ g.slots * (1 + g.journal) ∧ g.slots * (1 + g.journal) ≤ 1040 := by
  have := mul_bd (a := g.slots) (b := 1 + g.journal) (A := 16) (B := 65) (by have := h.s1; omega) (by have := h.s2; have := h.n2; omega) (by have := h.j1; have := h.p1; omega) (by have := h.j2; omega)
  omega
theorem Geo.OK.bp {g : Geo} (h : g.OK) : 0 ≤ g.blocks * g.per ∧ g.blocks * g.per ≤ 512 := by
  have := mul_bd (a := g.blocks) (b := g.per) (A := 64) (B := 8) (by have := h.b1; omega) h.b2 (by have := h.p1; omega) h.p2
  omega

/-- the k-th sector of the i-th thing of a kind -/
def ofS (r : Rg) (i k : Int) : Int := if 0 ≤ i ∧ i < r.many / r.per ∧ 0 ≤ k ∧ k < r.per then r.first + (i * r.per + k) else -1
def inB (n a b : Int) : Bool := decide (a ≤ n ∧ n ≤ b)

def Geo.leaseS (g : Geo) (i : Int) : Int := if g.may = true ∧ 0 ≤ i ∧ i < g.nodes then 1 + i else -1
def Geo.paxosS (g : Geo) (i : Int) : Int := if g.may = true ∧ 0 ≤ i ∧ i < g.nodes then 1 + g.nodes + i else -1
def Geo.logS (g : Geo) (i : Int) : Int := if g.may = true ∧ 0 ≤ i ∧ i < g.log then 1 + 2 * g.nodes + i else -1
def Geo.headS (g : Geo) (i : Int) : Int := if g.may = true ∧ 0 ≤ i ∧ i < g.slots then 1 + 2 * g.nodes + g.log + i * (1 + g.journal) else -1
def Geo.journalS (g : Geo) (i l : Int) : Int := if g.may = true ∧ 0 ≤ i ∧ i < g.slots ∧ 0 ≤ l then 1 + 2 * g.nodes + g.log + i * (1 + g.journal) + 1 + l % g.journal else -1
def Geo.dataS (g : Geo) (i k : Int) : Int := if g.may = true ∧ 0 ≤ i ∧ i < g.blocks ∧ 0 ≤ k ∧ k < g.per then 1 + 2 * g.nodes + g.log + g.slots * (1 + g.journal) + i * g.per + k else -1
def Geo.totalS (g : Geo) : Int := if g.may = true then g.total else 0
end Go.Proofs.Ytfonaceldfjneaa

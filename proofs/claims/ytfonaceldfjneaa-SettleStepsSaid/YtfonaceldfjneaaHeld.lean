/- What is held of a geometry's box while calls make memory. -/
import Derived.Test.YtfonaceldfjneaaFind
import Derived.Deep.RegionHeld3
namespace Go.Proofs.Ytfonaceldfjneaa
open Go.RowKit

abbrev GeoAt (g : Geo) (b : Nat) (w0 wx : World) : Prop :=
  wx.cell? ⟨b, 0, none⟩ = some (.int .i64 g.nodes) ∧ wx.cell? ⟨b, 1, none⟩ = some (.int .i64 g.slots) ∧ wx.cell? ⟨b, 2, none⟩ = some (.int .i64 g.blocks) ∧ wx.cell? ⟨b, 3, none⟩ = some (.int .i64 g.per) ∧
  wx.cell? ⟨b, 4, none⟩ = some (.int .i64 g.journal) ∧ wx.cell? ⟨b, 5, none⟩ = some (.int .i64 g.log) ∧ wx.cell? ⟨b, 6, none⟩ = some (.int .i64 g.lease) ∧ wx.cell? ⟨b, 7, none⟩ = some (.int .i64 g.wait) ∧
  b < wx.heap.size ∧ Below w0.heap.size w0 wx
theorem geoAt_keep {g : Geo} {b : Nat} {w0 wx wy : World} (h : GeoAt g b w0 wx) (hB : Below wx.heap.size wx wy) : GeoAt g b w0 wy := by
  obtain ⟨h0, h1, h2, h3, h4, h5, h6, h7, hl, hb⟩ := h
  have hc : ∀ o, wy.cell? ⟨b, o, none⟩ = wx.cell? ⟨b, o, none⟩ := fun o => hB.cell (p := ⟨b, o, none⟩) hl
  exact ⟨by rw [hc, h0], by rw [hc, h1], by rw [hc, h2], by rw [hc, h3], by rw [hc, h4], by rw [hc, h5], by rw [hc, h6], by rw [hc, h7], Nat.lt_of_lt_of_le hl hB.size, below_step hb hB hb.size⟩
theorem geoAt_mk {g : Geo} {b : Nat} {w0 wx : World} (h : Blk wx b 23 #[.int .i64 g.nodes, .int .i64 g.slots, .int .i64 g.blocks, .int .i64 g.per, .int .i64 g.journal, .int .i64 g.log, .int .i64 g.lease, .int .i64 g.wait]) (hb : Below w0.heap.size w0 wx) : GeoAt g b w0 wx :=
  ⟨h.cell 0, h.cell 1, h.cell 2, h.cell 3, h.cell 4, h.cell 5, h.cell 6, h.cell 7, h.lt, hb⟩
theorem geoAt_new (g : Geo) (w : World) : GeoAt g w.heap.size w (w.alloc (.cells #[.int .i64 g.nodes, .int .i64 g.slots, .int .i64 g.blocks, .int .i64 g.per, .int .i64 g.journal, .int .i64 g.log, .int .i64 g.lease, .int .i64 g.wait] 23)) :=
  geoAt_mk (Blk.new w _ _) ((Below.refl _ _).alloc (Nat.le_refl _) _)
theorem geoAt_drew {g : Geo} {b : Nat} {w0 wx : World} (h : GeoAt g b w0 wx) : GeoAt g b w0 wx.drew := by
  obtain ⟨h0, h1, h2, h3, h4, h5, h6, h7, hl, hb⟩ := h
  exact ⟨h0, h1, h2, h3, h4, h5, h6, h7, hl, hb.drew⟩
theorem geoAt_alloc {g : Geo} {b : Nat} {w0 wx : World} (h : GeoAt g b w0 wx) (o : Obj) : GeoAt g b w0 (wx.alloc o) := geoAt_keep h ((Below.refl _ _).alloc (Nat.le_refl _) _)
end Go.Proofs.Ytfonaceldfjneaa

/- The tables of the program. -/
import Derived.Test.YtakljpcmbpaeaaaGreatMountErrorsM27
import Derived.Test.YtakljpcmbpaeaaaGreatChecked
namespace Go.Proofs.YtakljpcmbpaeaaaGreat
open Go.RowKit
set_option maxRecDepth 100000

@[go_sem] theorem und_2 : Tryz.prog.underlying 2 = some (.int .i64) := by kernel_rfl
noncomputable def ti2 : TypeInfo := (Tryz.prog.info? 2).getD default
@[go_sem] theorem inf_2 : Tryz.prog.info? 2 = some ti2 := by kernel_rfl
@[go_sem] theorem tis2 : ti2.size = 1 := by kernel_rfl
@[go_sem] theorem tib2 : ti2.bytes = 8 := by kernel_rfl
noncomputable def zv2 : Value := (ti2.zero).getD Go.undef
@[go_sem] theorem tiz2 : ti2.zero = some zv2 := by kernel_rfl
@[go_sem ↓] theorem zvs2 : zv2.cells.size = 1 := by kernel_rfl
@[go_sem ↓] theorem zvo2 : zv2.cells.toList.all (fun v => v.oneCell') = true := by kernel_rfl
@[go_sem ↓] theorem zvv2 : zv2.cells.toList.map vOf = [.int .i64 0] := by kernel_rfl
@[go_sem] theorem und_3 : Tryz.prog.underlying 3 = some (.int .i64) := by kernel_rfl
noncomputable def ti3 : TypeInfo := (Tryz.prog.info? 3).getD default
@[go_sem] theorem inf_3 : Tryz.prog.info? 3 = some ti3 := by kernel_rfl
@[go_sem] theorem tis3 : ti3.size = 1 := by kernel_rfl
@[go_sem] theorem tib3 : ti3.bytes = 8 := by kernel_rfl
noncomputable def zv3 : Value := (ti3.zero).getD Go.undef
@[go_sem] theorem tiz3 : ti3.zero = some zv3 := by kernel_rfl
@[go_sem ↓] theorem zvs3 : zv3.cells.size = 1 := by kernel_rfl
@[go_sem ↓] theorem zvo3 : zv3.cells.toList.all (fun v => v.oneCell') = true := by kernel_rfl
@[go_sem ↓] theorem zvv3 : zv3.cells.toList.map vOf = [.int .i64 0] := by kernel_rfl
@[go_sem] theorem und_4 : Tryz.prog.underlying 4 = some (.bool) := by kernel_rfl
noncomputable def ti4 : TypeInfo := (Tryz.prog.info? 4).getD default
@[go_sem] theorem inf_4 : Tryz.prog.info? 4 = some ti4 := by kernel_rfl
@[go_sem] theorem tis4 : ti4.size = 1 := by kernel_rfl
@[go_sem] theorem tib4 : ti4.bytes = 1 := by kernel_rfl
noncomputable def zv4 : Value := (ti4.zero).getD Go.undef
@[go_sem] theorem tiz4 : ti4.zero = some zv4 := by kernel_rfl
@[go_sem ↓] theorem zvs4 : zv4.cells.size = 1 := by kernel_rfl
@[go_sem ↓] theorem zvo4 : zv4.cells.toList.all (fun v => v.oneCell') = true := by kernel_rfl
@[go_sem ↓] theorem zvv4 : zv4.cells.toList.map vOf = [.bool false] := by kernel_rfl
@[go_sem] theorem und_5 : Tryz.prog.underlying 5 = some (.int .u8) := by kernel_rfl
noncomputable def ti5 : TypeInfo := (Tryz.prog.info? 5).getD default
@[go_sem] theorem inf_5 : Tryz.prog.info? 5 = some ti5 := by kernel_rfl
@[go_sem] theorem tis5 : ti5.size = 1 := by kernel_rfl
@[go_sem] theorem tib5 : ti5.bytes = 1 := by kernel_rfl
noncomputable def zv5 : Value := (ti5.zero).getD Go.undef
@[go_sem] theorem tiz5 : ti5.zero = some zv5 := by kernel_rfl
@[go_sem ↓] theorem zvs5 : zv5.cells.size = 1 := by kernel_rfl
@[go_sem ↓] theorem zvo5 : zv5.cells.toList.all (fun v => v.oneCell') = true := by kernel_rfl
@[go_sem ↓] theorem zvv5 : zv5.cells.toList.map vOf = [.int .u8 0] := by kernel_rfl
@[go_sem] theorem und_9 : Tryz.prog.underlying 9 = some (.string) := by kernel_rfl
noncomputable def ti9 : TypeInfo := (Tryz.prog.info? 9).getD default
@[go_sem] theorem inf_9 : Tryz.prog.info? 9 = some ti9 := by kernel_rfl
@[go_sem] theorem tis9 : ti9.size = 1 := by kernel_rfl
@[go_sem] theorem tib9 : ti9.bytes = 16 := by kernel_rfl
noncomputable def zv9 : Value := (ti9.zero).getD Go.undef
@[go_sem] theorem tiz9 : ti9.zero = some zv9 := by kernel_rfl
@[go_sem ↓] theorem zvs9 : zv9.cells.size = 1 := by kernel_rfl
@[go_sem ↓] theorem zvo9 : zv9.cells.toList.all (fun v => v.oneCell') = true := by kernel_rfl
@[go_sem ↓] theorem zvv9 : zv9.cells.toList.map vOf = [.str ⟨#[]⟩] := by kernel_rfl
noncomputable def fs23 : Array Field := match Tryz.prog.underlying 23 with | some (.struct fs) => fs | _ => #[]
@[go_sem] theorem und_23 : Tryz.prog.underlying 23 = some (.struct fs23) := by kernel_rfl
noncomputable def fd23_0 : Field := (fs23[0]?).getD default
@[go_sem] theorem fg23_0 : fs23[0]? = some fd23_0 := by kernel_rfl
@[go_sem] theorem ft23_0 : fd23_0.type = 3 := by kernel_rfl
@[go_sem] theorem fo23_0 : fd23_0.offset = 0 := by kernel_rfl
noncomputable def fd23_1 : Field := (fs23[1]?).getD default
@[go_sem] theorem fg23_1 : fs23[1]? = some fd23_1 := by kernel_rfl
@[go_sem] theorem ft23_1 : fd23_1.type = 3 := by kernel_rfl
@[go_sem] theorem fo23_1 : fd23_1.offset = 1 := by kernel_rfl
noncomputable def fd23_2 : Field := (fs23[2]?).getD default
@[go_sem] theorem fg23_2 : fs23[2]? = some fd23_2 := by kernel_rfl
@[go_sem] theorem ft23_2 : fd23_2.type = 3 := by kernel_rfl
@[go_sem] theorem fo23_2 : fd23_2.offset = 2 := by kernel_rfl
noncomputable def fd23_3 : Field := (fs23[3]?).getD default
@[go_sem] theorem fg23_3 : fs23[3]? = some fd23_3 := by kernel_rfl
@[go_sem] theorem ft23_3 : fd23_3.type = 3 := by kernel_rfl
@[go_sem] theorem fo23_3 : fd23_3.offset = 3 := by kernel_rfl
noncomputable def fd23_4 : Field := (fs23[4]?).getD default
@[go_sem] theorem fg23_4 : fs23[4]? = some fd23_4 := by kernel_rfl
@[go_sem] theorem ft23_4 : fd23_4.type = 3 := by kernel_rfl
@[go_sem] theorem fo23_4 : fd23_4.offset = 4 := by kernel_rfl
noncomputable def fd23_5 : Field := (fs23[5]?).getD default
@[go_sem] theorem fg23_5 : fs23[5]? = some fd23_5 := by kernel_rfl
@[go_sem] theorem ft23_5 : fd23_5.type = 3 := by kernel_rfl
@[go_sem] theorem fo23_5 : fd23_5.offset = 5 := by kernel_rfl
noncomputable def fd23_6 : Field := (fs23[6]?).getD default
@[go_sem] theorem fg23_6 : fs23[6]? = some fd23_6 := by kernel_rfl
@[go_sem] theorem ft23_6 : fd23_6.type = 3 := by kernel_rfl
@[go_sem] theorem fo23_6 : fd23_6.offset = 6 := by kernel_rfl
noncomputable def fd23_7 : Field := (fs23[7]?).getD default
@[go_sem] theorem fg23_7 : fs23[7]? = some fd23_7 := by kernel_rfl
@[go_sem] theorem ft23_7 : fd23_7.type = 3 := by kernel_rfl
@[go_sem] theorem fo23_7 : fd23_7.offset = 7 := by kernel_rfl
@[go_sem] theorem pl23 : fs23.toList.mapM (fun f => (Tryz.prog.info? f.type).map fun i => (f.offset, i.size)) = some [(0, 1), (1, 1), (2, 1), (3, 1), (4, 1), (5, 1), (6, 1), (7, 1)] := by kernel_rfl
noncomputable def ti23 : TypeInfo := (Tryz.prog.info? 23).getD default
@[go_sem] theorem inf_23 : Tryz.prog.info? 23 = some ti23 := by kernel_rfl
@[go_sem] theorem tis23 : ti23.size = 8 := by kernel_rfl
@[go_sem] theorem tib23 : ti23.bytes = 64 := by kernel_rfl
noncomputable def zv23 : Value := (ti23.zero).getD Go.undef
@[go_sem] theorem tiz23 : ti23.zero = some zv23 := by kernel_rfl
@[go_sem ↓] theorem zvs23 : zv23.cells.size = 8 := by kernel_rfl
@[go_sem ↓] theorem zvo23 : zv23.cells.toList.all (fun v => v.oneCell') = true := by kernel_rfl
@[go_sem ↓] theorem zvv23 : zv23.cells.toList.map vOf = [.int .i64 0, .int .i64 0, .int .i64 0, .int .i64 0, .int .i64 0, .int .i64 0, .int .i64 0, .int .i64 0] := by kernel_rfl
@[go_sem] theorem und_27 : Tryz.prog.underlying 27 = some (.slice 9) := by kernel_rfl
noncomputable def ti27 : TypeInfo := (Tryz.prog.info? 27).getD default
@[go_sem] theorem inf_27 : Tryz.prog.info? 27 = some ti27 := by kernel_rfl
@[go_sem] theorem tis27 : ti27.size = 1 := by kernel_rfl
@[go_sem] theorem tib27 : ti27.bytes = 24 := by kernel_rfl
noncomputable def zv27 : Value := (ti27.zero).getD Go.undef
@[go_sem] theorem tiz27 : ti27.zero = some zv27 := by kernel_rfl
@[go_sem ↓] theorem zvs27 : zv27.cells.size = 1 := by kernel_rfl
@[go_sem ↓] theorem zvo27 : zv27.cells.toList.all (fun v => v.oneCell') = true := by kernel_rfl
@[go_sem ↓] theorem zvv27 : zv27.cells.toList.map vOf = [.sl [] true] := by kernel_rfl
@[go_sem] theorem und_29 : Tryz.prog.underlying 29 = some (.slice 3) := by kernel_rfl
noncomputable def ti29 : TypeInfo := (Tryz.prog.info? 29).getD default
@[go_sem] theorem inf_29 : Tryz.prog.info? 29 = some ti29 := by kernel_rfl
@[go_sem] theorem tis29 : ti29.size = 1 := by kernel_rfl
@[go_sem] theorem tib29 : ti29.bytes = 24 := by kernel_rfl
noncomputable def zv29 : Value := (ti29.zero).getD Go.undef
@[go_sem] theorem tiz29 : ti29.zero = some zv29 := by kernel_rfl
@[go_sem ↓] theorem zvs29 : zv29.cells.size = 1 := by kernel_rfl
@[go_sem ↓] theorem zvo29 : zv29.cells.toList.all (fun v => v.oneCell') = true := by kernel_rfl
@[go_sem ↓] theorem zvv29 : zv29.cells.toList.map vOf = [.sl [] true] := by kernel_rfl
@[go_sem] theorem und_36 : Tryz.prog.underlying 36 = some (.slice 189) := by kernel_rfl
noncomputable def ti36 : TypeInfo := (Tryz.prog.info? 36).getD default
@[go_sem] theorem inf_36 : Tryz.prog.info? 36 = some ti36 := by kernel_rfl
@[go_sem] theorem tis36 : ti36.size = 1 := by kernel_rfl
@[go_sem] theorem tib36 : ti36.bytes = 24 := by kernel_rfl
noncomputable def zv36 : Value := (ti36.zero).getD Go.undef
@[go_sem] theorem tiz36 : ti36.zero = some zv36 := by kernel_rfl
@[go_sem ↓] theorem zvs36 : zv36.cells.size = 1 := by kernel_rfl
@[go_sem ↓] theorem zvo36 : zv36.cells.toList.all (fun v => v.oneCell') = true := by kernel_rfl
@[go_sem ↓] theorem zvv36 : zv36.cells.toList.map vOf = [.sl [] true] := by kernel_rfl
@[go_sem] theorem und_37 : Tryz.prog.underlying 37 = some (.slice 244) := by kernel_rfl
noncomputable def ti37 : TypeInfo := (Tryz.prog.info? 37).getD default
@[go_sem] theorem inf_37 : Tryz.prog.info? 37 = some ti37 := by kernel_rfl
@[go_sem] theorem tis37 : ti37.size = 1 := by kernel_rfl
@[go_sem] theorem tib37 : ti37.bytes = 24 := by kernel_rfl
noncomputable def zv37 : Value := (ti37.zero).getD Go.undef
@[go_sem] theorem tiz37 : ti37.zero = some zv37 := by kernel_rfl
@[go_sem ↓] theorem zvs37 : zv37.cells.size = 1 := by kernel_rfl
@[go_sem ↓] theorem zvo37 : zv37.cells.toList.all (fun v => v.oneCell') = true := by kernel_rfl
@[go_sem ↓] theorem zvv37 : zv37.cells.toList.map vOf = [.sl [] true] := by kernel_rfl
@[go_sem] theorem und_45 : Tryz.prog.underlying 45 = some (.int .i8) := by kernel_rfl
noncomputable def ti45 : TypeInfo := (Tryz.prog.info? 45).getD default
@[go_sem] theorem inf_45 : Tryz.prog.info? 45 = some ti45 := by kernel_rfl
@[go_sem] theorem tis45 : ti45.size = 1 := by kernel_rfl
@[go_sem] theorem tib45 : ti45.bytes = 1 := by kernel_rfl
noncomputable def zv45 : Value := (ti45.zero).getD Go.undef
@[go_sem] theorem tiz45 : ti45.zero = some zv45 := by kernel_rfl
@[go_sem ↓] theorem zvs45 : zv45.cells.size = 1 := by kernel_rfl
@[go_sem ↓] theorem zvo45 : zv45.cells.toList.all (fun v => v.oneCell') = true := by kernel_rfl
@[go_sem ↓] theorem zvv45 : zv45.cells.toList.map vOf = [.int .i8 0] := by kernel_rfl
@[go_sem] theorem und_168 : Tryz.prog.underlying 168 = some (.slice 5) := by kernel_rfl
noncomputable def ti168 : TypeInfo := (Tryz.prog.info? 168).getD default
@[go_sem] theorem inf_168 : Tryz.prog.info? 168 = some ti168 := by kernel_rfl
@[go_sem] theorem tis168 : ti168.size = 1 := by kernel_rfl
@[go_sem] theorem tib168 : ti168.bytes = 24 := by kernel_rfl
noncomputable def zv168 : Value := (ti168.zero).getD Go.undef
@[go_sem] theorem tiz168 : ti168.zero = some zv168 := by kernel_rfl
@[go_sem ↓] theorem zvs168 : zv168.cells.size = 1 := by kernel_rfl
@[go_sem ↓] theorem zvo168 : zv168.cells.toList.all (fun v => v.oneCell') = true := by kernel_rfl
@[go_sem ↓] theorem zvv168 : zv168.cells.toList.map vOf = [.sl [] true] := by kernel_rfl
noncomputable def fs189 : Array Field := match Tryz.prog.underlying 189 with | some (.struct fs) => fs | _ => #[]
@[go_sem] theorem und_189 : Tryz.prog.underlying 189 = some (.struct fs189) := by kernel_rfl
noncomputable def fd189_0 : Field := (fs189[0]?).getD default
@[go_sem] theorem fg189_0 : fs189[0]? = some fd189_0 := by kernel_rfl
@[go_sem] theorem ft189_0 : fd189_0.type = 3 := by kernel_rfl
@[go_sem] theorem fo189_0 : fd189_0.offset = 0 := by kernel_rfl
noncomputable def fd189_1 : Field := (fs189[1]?).getD default
@[go_sem] theorem fg189_1 : fs189[1]? = some fd189_1 := by kernel_rfl
@[go_sem] theorem ft189_1 : fd189_1.type = 3 := by kernel_rfl
@[go_sem] theorem fo189_1 : fd189_1.offset = 1 := by kernel_rfl
@[go_sem] theorem pl189 : fs189.toList.mapM (fun f => (Tryz.prog.info? f.type).map fun i => (f.offset, i.size)) = some [(0, 1), (1, 1)] := by kernel_rfl
noncomputable def ti189 : TypeInfo := (Tryz.prog.info? 189).getD default
@[go_sem] theorem inf_189 : Tryz.prog.info? 189 = some ti189 := by kernel_rfl
@[go_sem] theorem tis189 : ti189.size = 2 := by kernel_rfl
@[go_sem] theorem tib189 : ti189.bytes = 16 := by kernel_rfl
noncomputable def zv189 : Value := (ti189.zero).getD Go.undef
@[go_sem] theorem tiz189 : ti189.zero = some zv189 := by kernel_rfl
@[go_sem ↓] theorem zvs189 : zv189.cells.size = 2 := by kernel_rfl
@[go_sem ↓] theorem zvo189 : zv189.cells.toList.all (fun v => v.oneCell') = true := by kernel_rfl
@[go_sem ↓] theorem zvv189 : zv189.cells.toList.map vOf = [.int .i64 0, .int .i64 0] := by kernel_rfl
noncomputable def fs244 : Array Field := match Tryz.prog.underlying 244 with | some (.struct fs) => fs | _ => #[]
@[go_sem] theorem und_244 : Tryz.prog.underlying 244 = some (.struct fs244) := by kernel_rfl
noncomputable def fd244_0 : Field := (fs244[0]?).getD default
@[go_sem] theorem fg244_0 : fs244[0]? = some fd244_0 := by kernel_rfl
@[go_sem] theorem ft244_0 : fd244_0.type = 3 := by kernel_rfl
@[go_sem] theorem fo244_0 : fd244_0.offset = 0 := by kernel_rfl
noncomputable def fd244_1 : Field := (fs244[1]?).getD default
@[go_sem] theorem fg244_1 : fs244[1]? = some fd244_1 := by kernel_rfl
@[go_sem] theorem ft244_1 : fd244_1.type = 47 := by kernel_rfl
@[go_sem] theorem fo244_1 : fd244_1.offset = 1 := by kernel_rfl
noncomputable def fd244_2 : Field := (fs244[2]?).getD default
@[go_sem] theorem fg244_2 : fs244[2]? = some fd244_2 := by kernel_rfl
@[go_sem] theorem ft244_2 : fd244_2.type = 45 := by kernel_rfl
@[go_sem] theorem fo244_2 : fd244_2.offset = 3 := by kernel_rfl
@[go_sem] theorem pl244 : fs244.toList.mapM (fun f => (Tryz.prog.info? f.type).map fun i => (f.offset, i.size)) = some [(0, 1), (1, 2), (3, 1)] := by kernel_rfl
noncomputable def ti244 : TypeInfo := (Tryz.prog.info? 244).getD default
@[go_sem] theorem inf_244 : Tryz.prog.info? 244 = some ti244 := by kernel_rfl
@[go_sem] theorem tis244 : ti244.size = 4 := by kernel_rfl
@[go_sem] theorem tib244 : ti244.bytes = 32 := by kernel_rfl
noncomputable def zv244 : Value := (ti244.zero).getD Go.undef
@[go_sem] theorem tiz244 : ti244.zero = some zv244 := by kernel_rfl
@[go_sem ↓] theorem zvs244 : zv244.cells.size = 4 := by kernel_rfl
@[go_sem ↓] theorem zvo244 : zv244.cells.toList.all (fun v => v.oneCell') = true := by kernel_rfl
@[go_sem ↓] theorem zvv244 : zv244.cells.toList.map vOf = [.int .i64 0, .int .i64 0, .int .i64 0, .int .i8 0] := by kernel_rfl
@[go_sem] theorem und_374 : Tryz.prog.underlying 374 = some (.int .u32) := by kernel_rfl
noncomputable def ti374 : TypeInfo := (Tryz.prog.info? 374).getD default
@[go_sem] theorem inf_374 : Tryz.prog.info? 374 = some ti374 := by kernel_rfl
@[go_sem] theorem tis374 : ti374.size = 1 := by kernel_rfl
@[go_sem] theorem tib374 : ti374.bytes = 4 := by kernel_rfl
noncomputable def zv374 : Value := (ti374.zero).getD Go.undef
@[go_sem] theorem tiz374 : ti374.zero = some zv374 := by kernel_rfl
@[go_sem ↓] theorem zvs374 : zv374.cells.size = 1 := by kernel_rfl
@[go_sem ↓] theorem zvo374 : zv374.cells.toList.all (fun v => v.oneCell') = true := by kernel_rfl
@[go_sem ↓] theorem zvv374 : zv374.cells.toList.map vOf = [.int .u32 0] := by kernel_rfl
theorem mixed : Tryz.prog.follows .mixedOrders = true := by kernel_rfl
end Go.Proofs.YtakljpcmbpaeaaaGreat

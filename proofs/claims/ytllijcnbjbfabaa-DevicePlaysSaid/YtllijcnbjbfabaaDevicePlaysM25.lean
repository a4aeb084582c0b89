/- The tables of the program. -/
import Derived.Test.YtllijcnbjbfabaaDevicePlaysM24
import Derived.Test.YtllijcnbjbfabaaChecked
namespace Go.Proofs.Ytllijcnbjbfabaa
open Go.RowKit
set_option maxRecDepth 100000

@[go_sem] theorem und_2 : Try.prog.underlying 2 = some (.int .i64) := by kernel_rfl
noncomputable def ti2 : TypeInfo := (Try.prog.info? 2).getD default
@[go_sem] theorem inf_2 : Try.prog.info? 2 = some ti2 := by kernel_rfl
@[go_sem] theorem tis2 : ti2.size = 1 := by kernel_rfl
@[go_sem] theorem tib2 : ti2.bytes = 8 := by kernel_rfl
noncomputable def zv2 : Value := (ti2.zero).getD Go.undef
@[go_sem] theorem tiz2 : ti2.zero = some zv2 := by kernel_rfl
@[go_sem ↓] theorem zvs2 : zv2.cells.size = 1 := by kernel_rfl
@[go_sem ↓] theorem zvo2 : zv2.cells.toList.all (fun v => v.oneCell') = true := by kernel_rfl
@[go_sem ↓] theorem zvv2 : zv2.cells.toList.map vOf = [.int .i64 0] := by kernel_rfl
@[go_sem] theorem und_3 : Try.prog.underlying 3 = some (.int .i64) := by kernel_rfl
noncomputable def ti3 : TypeInfo := (Try.prog.info? 3).getD default
@[go_sem] theorem inf_3 : Try.prog.info? 3 = some ti3 := by kernel_rfl
@[go_sem] theorem tis3 : ti3.size = 1 := by kernel_rfl
@[go_sem] theorem tib3 : ti3.bytes = 8 := by kernel_rfl
noncomputable def zv3 : Value := (ti3.zero).getD Go.undef
@[go_sem] theorem tiz3 : ti3.zero = some zv3 := by kernel_rfl
@[go_sem ↓] theorem zvs3 : zv3.cells.size = 1 := by kernel_rfl
@[go_sem ↓] theorem zvo3 : zv3.cells.toList.all (fun v => v.oneCell') = true := by kernel_rfl
@[go_sem ↓] theorem zvv3 : zv3.cells.toList.map vOf = [.int .i64 0] := by kernel_rfl
@[go_sem] theorem und_4 : Try.prog.underlying 4 = some (.bool) := by kernel_rfl
noncomputable def ti4 : TypeInfo := (Try.prog.info? 4).getD default
@[go_sem] theorem inf_4 : Try.prog.info? 4 = some ti4 := by kernel_rfl
@[go_sem] theorem tis4 : ti4.size = 1 := by kernel_rfl
@[go_sem] theorem tib4 : ti4.bytes = 1 := by kernel_rfl
noncomputable def zv4 : Value := (ti4.zero).getD Go.undef
@[go_sem] theorem tiz4 : ti4.zero = some zv4 := by kernel_rfl
@[go_sem ↓] theorem zvs4 : zv4.cells.size = 1 := by kernel_rfl
@[go_sem ↓] theorem zvo4 : zv4.cells.toList.all (fun v => v.oneCell') = true := by kernel_rfl
@[go_sem ↓] theorem zvv4 : zv4.cells.toList.map vOf = [.bool false] := by kernel_rfl
@[go_sem] theorem und_5 : Try.prog.underlying 5 = some (.int .u8) := by kernel_rfl
noncomputable def ti5 : TypeInfo := (Try.prog.info? 5).getD default
@[go_sem] theorem inf_5 : Try.prog.info? 5 = some ti5 := by kernel_rfl
@[go_sem] theorem tis5 : ti5.size = 1 := by kernel_rfl
@[go_sem] theorem tib5 : ti5.bytes = 1 := by kernel_rfl
noncomputable def zv5 : Value := (ti5.zero).getD Go.undef
@[go_sem] theorem tiz5 : ti5.zero = some zv5 := by kernel_rfl
@[go_sem ↓] theorem zvs5 : zv5.cells.size = 1 := by kernel_rfl
@[go_sem ↓] theorem zvo5 : zv5.cells.toList.all (fun v => v.oneCell') = true := by kernel_rfl
@[go_sem ↓] theorem zvv5 : zv5.cells.toList.map vOf = [.int .u8 0] := by kernel_rfl
@[go_sem] theorem und_6 : Try.prog.underlying 6 = some (.int .u8) := by kernel_rfl
noncomputable def ti6 : TypeInfo := (Try.prog.info? 6).getD default
@[go_sem] theorem inf_6 : Try.prog.info? 6 = some ti6 := by kernel_rfl
@[go_sem] theorem tis6 : ti6.size = 1 := by kernel_rfl
@[go_sem] theorem tib6 : ti6.bytes = 1 := by kernel_rfl
noncomputable def zv6 : Value := (ti6.zero).getD Go.undef
@[go_sem] theorem tiz6 : ti6.zero = some zv6 := by kernel_rfl
@[go_sem ↓] theorem zvs6 : zv6.cells.size = 1 := by kernel_rfl
@[go_sem ↓] theorem zvo6 : zv6.cells.toList.all (fun v => v.oneCell') = true := by kernel_rfl
@[go_sem ↓] theorem zvv6 : zv6.cells.toList.map vOf = [.int .u8 0] := by kernel_rfl
noncomputable def fs7 : Array Field := match Try.prog.underlying 7 with | some (.struct fs) => fs | _ => #[]
@[go_sem] theorem und_7 : Try.prog.underlying 7 = some (.struct fs7) := by kernel_rfl
noncomputable def fd7_0 : Field := (fs7[0]?).getD default
@[go_sem] theorem fg7_0 : fs7[0]? = some fd7_0 := by kernel_rfl
@[go_sem] theorem ft7_0 : fd7_0.type = 2 := by kernel_rfl
@[go_sem] theorem fo7_0 : fd7_0.offset = 0 := by kernel_rfl
noncomputable def fd7_1 : Field := (fs7[1]?).getD default
@[go_sem] theorem fg7_1 : fs7[1]? = some fd7_1 := by kernel_rfl
@[go_sem] theorem ft7_1 : fd7_1.type = 3 := by kernel_rfl
@[go_sem] theorem fo7_1 : fd7_1.offset = 1 := by kernel_rfl
noncomputable def fd7_2 : Field := (fs7[2]?).getD default
@[go_sem] theorem fg7_2 : fs7[2]? = some fd7_2 := by kernel_rfl
@[go_sem] theorem ft7_2 : fd7_2.type = 4 := by kernel_rfl
@[go_sem] theorem fo7_2 : fd7_2.offset = 2 := by kernel_rfl
noncomputable def fd7_3 : Field := (fs7[3]?).getD default
@[go_sem] theorem fg7_3 : fs7[3]? = some fd7_3 := by kernel_rfl
@[go_sem] theorem ft7_3 : fd7_3.type = 6 := by kernel_rfl
@[go_sem] theorem fo7_3 : fd7_3.offset = 3 := by kernel_rfl
@[go_sem] theorem pl7 : fs7.toList.mapM (fun f => (Try.prog.info? f.type).map fun i => (f.offset, i.size)) = some [(0, 1), (1, 1), (2, 1), (3, 1)] := by kernel_rfl
noncomputable def ti7 : TypeInfo := (Try.prog.info? 7).getD default
@[go_sem] theorem inf_7 : Try.prog.info? 7 = some ti7 := by kernel_rfl
@[go_sem] theorem tis7 : ti7.size = 4 := by kernel_rfl
@[go_sem] theorem tib7 : ti7.bytes = 24 := by kernel_rfl
noncomputable def zv7 : Value := (ti7.zero).getD Go.undef
@[go_sem] theorem tiz7 : ti7.zero = some zv7 := by kernel_rfl
@[go_sem ↓] theorem zvs7 : zv7.cells.size = 4 := by kernel_rfl
@[go_sem ↓] theorem zvo7 : zv7.cells.toList.all (fun v => v.oneCell') = true := by kernel_rfl
@[go_sem ↓] theorem zvv7 : zv7.cells.toList.map vOf = [.int .i64 0, .int .i64 0, .bool false, .int .u8 0] := by kernel_rfl
noncomputable def fs8 : Array Field := match Try.prog.underlying 8 with | some (.struct fs) => fs | _ => #[]
@[go_sem] theorem und_8 : Try.prog.underlying 8 = some (.struct fs8) := by kernel_rfl
noncomputable def fd8_0 : Field := (fs8[0]?).getD default
@[go_sem] theorem fg8_0 : fs8[0]? = some fd8_0 := by kernel_rfl
@[go_sem] theorem ft8_0 : fd8_0.type = 2 := by kernel_rfl
@[go_sem] theorem fo8_0 : fd8_0.offset = 0 := by kernel_rfl
noncomputable def fd8_1 : Field := (fs8[1]?).getD default
@[go_sem] theorem fg8_1 : fs8[1]? = some fd8_1 := by kernel_rfl
@[go_sem] theorem ft8_1 : fd8_1.type = 3 := by kernel_rfl
@[go_sem] theorem fo8_1 : fd8_1.offset = 1 := by kernel_rfl
noncomputable def fd8_2 : Field := (fs8[2]?).getD default
@[go_sem] theorem fg8_2 : fs8[2]? = some fd8_2 := by kernel_rfl
@[go_sem] theorem ft8_2 : fd8_2.type = 4 := by kernel_rfl
@[go_sem] theorem fo8_2 : fd8_2.offset = 2 := by kernel_rfl
noncomputable def fd8_3 : Field := (fs8[3]?).getD default
@[go_sem] theorem fg8_3 : fs8[3]? = some fd8_3 := by kernel_rfl
@[go_sem] theorem ft8_3 : fd8_3.type = 6 := by kernel_rfl
@[go_sem] theorem fo8_3 : fd8_3.offset = 3 := by kernel_rfl
@[go_sem] theorem pl8 : fs8.toList.mapM (fun f => (Try.prog.info? f.type).map fun i => (f.offset, i.size)) = some [(0, 1), (1, 1), (2, 1), (3, 1)] := by kernel_rfl
noncomputable def ti8 : TypeInfo := (Try.prog.info? 8).getD default
@[go_sem] theorem inf_8 : Try.prog.info? 8 = some ti8 := by kernel_rfl
@[go_sem] theorem tis8 : ti8.size = 4 := by kernel_rfl
@[go_sem] theorem tib8 : ti8.bytes = 24 := by kernel_rfl
noncomputable def zv8 : Value := (ti8.zero).getD Go.undef
@[go_sem] theorem tiz8 : ti8.zero = some zv8 := by kernel_rfl
@[go_sem ↓] theorem zvs8 : zv8.cells.size = 4 := by kernel_rfl
@[go_sem ↓] theorem zvo8 : zv8.cells.toList.all (fun v => v.oneCell') = true := by kernel_rfl
@[go_sem ↓] theorem zvv8 : zv8.cells.toList.map vOf = [.int .i64 0, .int .i64 0, .bool false, .int .u8 0] := by kernel_rfl
@[go_sem] theorem und_9 : Try.prog.underlying 9 = some (.string) := by kernel_rfl
noncomputable def ti9 : TypeInfo := (Try.prog.info? 9).getD default
@[go_sem] theorem inf_9 : Try.prog.info? 9 = some ti9 := by kernel_rfl
@[go_sem] theorem tis9 : ti9.size = 1 := by kernel_rfl
@[go_sem] theorem tib9 : ti9.bytes = 16 := by kernel_rfl
noncomputable def zv9 : Value := (ti9.zero).getD Go.undef
@[go_sem] theorem tiz9 : ti9.zero = some zv9 := by kernel_rfl
@[go_sem ↓] theorem zvs9 : zv9.cells.size = 1 := by kernel_rfl
@[go_sem ↓] theorem zvo9 : zv9.cells.toList.all (fun v => v.oneCell') = true := by kernel_rfl
@[go_sem ↓] theorem zvv9 : zv9.cells.toList.map vOf = [.str ⟨#[]⟩] := by kernel_rfl
@[go_sem] theorem und_10 : Try.prog.underlying 10 = some (.string) := by kernel_rfl
noncomputable def ti10 : TypeInfo := (Try.prog.info? 10).getD default
@[go_sem] theorem inf_10 : Try.prog.info? 10 = some ti10 := by kernel_rfl
@[go_sem] theorem tis10 : ti10.size = 1 := by kernel_rfl
@[go_sem] theorem tib10 : ti10.bytes = 16 := by kernel_rfl
noncomputable def zv10 : Value := (ti10.zero).getD Go.undef
@[go_sem] theorem tiz10 : ti10.zero = some zv10 := by kernel_rfl
@[go_sem ↓] theorem zvs10 : zv10.cells.size = 1 := by kernel_rfl
@[go_sem ↓] theorem zvo10 : zv10.cells.toList.all (fun v => v.oneCell') = true := by kernel_rfl
@[go_sem ↓] theorem zvv10 : zv10.cells.toList.map vOf = [.str ⟨#[]⟩] := by kernel_rfl
@[go_sem] theorem und_11 : Try.prog.underlying 11 = some (.string) := by kernel_rfl
noncomputable def ti11 : TypeInfo := (Try.prog.info? 11).getD default
@[go_sem] theorem inf_11 : Try.prog.info? 11 = some ti11 := by kernel_rfl
@[go_sem] theorem tis11 : ti11.size = 1 := by kernel_rfl
@[go_sem] theorem tib11 : ti11.bytes = 16 := by kernel_rfl
noncomputable def zv11 : Value := (ti11.zero).getD Go.undef
@[go_sem] theorem tiz11 : ti11.zero = some zv11 := by kernel_rfl
@[go_sem ↓] theorem zvs11 : zv11.cells.size = 1 := by kernel_rfl
@[go_sem ↓] theorem zvo11 : zv11.cells.toList.all (fun v => v.oneCell') = true := by kernel_rfl
@[go_sem ↓] theorem zvv11 : zv11.cells.toList.map vOf = [.str ⟨#[]⟩] := by kernel_rfl
@[go_sem] theorem und_12 : Try.prog.underlying 12 = some (.int .u64) := by kernel_rfl
noncomputable def ti12 : TypeInfo := (Try.prog.info? 12).getD default
@[go_sem] theorem inf_12 : Try.prog.info? 12 = some ti12 := by kernel_rfl
@[go_sem] theorem tis12 : ti12.size = 1 := by kernel_rfl
@[go_sem] theorem tib12 : ti12.bytes = 8 := by kernel_rfl
noncomputable def zv12 : Value := (ti12.zero).getD Go.undef
@[go_sem] theorem tiz12 : ti12.zero = some zv12 := by kernel_rfl
@[go_sem ↓] theorem zvs12 : zv12.cells.size = 1 := by kernel_rfl
@[go_sem ↓] theorem zvo12 : zv12.cells.toList.all (fun v => v.oneCell') = true := by kernel_rfl
@[go_sem ↓] theorem zvv12 : zv12.cells.toList.map vOf = [.int .u64 0] := by kernel_rfl
noncomputable def fs13 : Array Field := match Try.prog.underlying 13 with | some (.struct fs) => fs | _ => #[]
@[go_sem] theorem und_13 : Try.prog.underlying 13 = some (.struct fs13) := by kernel_rfl
noncomputable def fd13_0 : Field := (fs13[0]?).getD default
@[go_sem] theorem fg13_0 : fs13[0]? = some fd13_0 := by kernel_rfl
@[go_sem] theorem ft13_0 : fd13_0.type = 9 := by kernel_rfl
@[go_sem] theorem fo13_0 : fd13_0.offset = 0 := by kernel_rfl
noncomputable def fd13_1 : Field := (fs13[1]?).getD default
@[go_sem] theorem fg13_1 : fs13[1]? = some fd13_1 := by kernel_rfl
@[go_sem] theorem ft13_1 : fd13_1.type = 12 := by kernel_rfl
@[go_sem] theorem fo13_1 : fd13_1.offset = 1 := by kernel_rfl
@[go_sem] theorem pl13 : fs13.toList.mapM (fun f => (Try.prog.info? f.type).map fun i => (f.offset, i.size)) = some [(0, 1), (1, 1)] := by kernel_rfl
noncomputable def ti13 : TypeInfo := (Try.prog.info? 13).getD default
@[go_sem] theorem inf_13 : Try.prog.info? 13 = some ti13 := by kernel_rfl
@[go_sem] theorem tis13 : ti13.size = 2 := by kernel_rfl
@[go_sem] theorem tib13 : ti13.bytes = 24 := by kernel_rfl
noncomputable def zv13 : Value := (ti13.zero).getD Go.undef
@[go_sem] theorem tiz13 : ti13.zero = some zv13 := by kernel_rfl
@[go_sem ↓] theorem zvs13 : zv13.cells.size = 2 := by kernel_rfl
@[go_sem ↓] theorem zvo13 : zv13.cells.toList.all (fun v => v.oneCell') = true := by kernel_rfl
@[go_sem ↓] theorem zvv13 : zv13.cells.toList.map vOf = [.str ⟨#[]⟩, .int .u64 0] := by kernel_rfl
noncomputable def fs14 : Array Field := match Try.prog.underlying 14 with | some (.struct fs) => fs | _ => #[]
@[go_sem] theorem und_14 : Try.prog.underlying 14 = some (.struct fs14) := by kernel_rfl
noncomputable def fd14_0 : Field := (fs14[0]?).getD default
@[go_sem] theorem fg14_0 : fs14[0]? = some fd14_0 := by kernel_rfl
@[go_sem] theorem ft14_0 : fd14_0.type = 9 := by kernel_rfl
@[go_sem] theorem fo14_0 : fd14_0.offset = 0 := by kernel_rfl
noncomputable def fd14_1 : Field := (fs14[1]?).getD default
@[go_sem] theorem fg14_1 : fs14[1]? = some fd14_1 := by kernel_rfl
@[go_sem] theorem ft14_1 : fd14_1.type = 12 := by kernel_rfl
@[go_sem] theorem fo14_1 : fd14_1.offset = 1 := by kernel_rfl
@[go_sem] theorem pl14 : fs14.toList.mapM (fun f => (Try.prog.info? f.type).map fun i => (f.offset, i.size)) = some [(0, 1), (1, 1)] := by kernel_rfl
noncomputable def ti14 : TypeInfo := (Try.prog.info? 14).getD default
@[go_sem] theorem inf_14 : Try.prog.info? 14 = some ti14 := by kernel_rfl
@[go_sem] theorem tis14 : ti14.size = 2 := by kernel_rfl
@[go_sem] theorem tib14 : ti14.bytes = 24 := by kernel_rfl
noncomputable def zv14 : Value := (ti14.zero).getD Go.undef
@[go_sem] theorem tiz14 : ti14.zero = some zv14 := by kernel_rfl
@[go_sem ↓] theorem zvs14 : zv14.cells.size = 2 := by kernel_rfl
@[go_sem ↓] theorem zvo14 : zv14.cells.toList.all (fun v => v.oneCell') = true := by kernel_rfl
@[go_sem ↓] theorem zvv14 : zv14.cells.toList.map vOf = [.str ⟨#[]⟩, .int .u64 0] := by kernel_rfl
@[go_sem] theorem und_15 : Try.prog.underlying 15 = some (.pointer 203) := by kernel_rfl
noncomputable def ti15 : TypeInfo := (Try.prog.info? 15).getD default
@[go_sem] theorem inf_15 : Try.prog.info? 15 = some ti15 := by kernel_rfl
@[go_sem] theorem tis15 : ti15.size = 1 := by kernel_rfl
@[go_sem] theorem tib15 : ti15.bytes = 8 := by kernel_rfl
noncomputable def zv15 : Value := (ti15.zero).getD Go.undef
@[go_sem] theorem tiz15 : ti15.zero = some zv15 := by kernel_rfl
@[go_sem ↓] theorem zvs15 : zv15.cells.size = 1 := by kernel_rfl
@[go_sem ↓] theorem zvo15 : zv15.cells.toList.all (fun v => v.oneCell') = true := by kernel_rfl
@[go_sem ↓] theorem zvv15 : zv15.cells.toList.map vOf = [.nilp] := by kernel_rfl
@[go_sem] theorem und_16 : Try.prog.underlying 16 = some (.pointer 206) := by kernel_rfl
noncomputable def ti16 : TypeInfo := (Try.prog.info? 16).getD default
@[go_sem] theorem inf_16 : Try.prog.info? 16 = some ti16 := by kernel_rfl
@[go_sem] theorem tis16 : ti16.size = 1 := by kernel_rfl
@[go_sem] theorem tib16 : ti16.bytes = 8 := by kernel_rfl
noncomputable def zv16 : Value := (ti16.zero).getD Go.undef
@[go_sem] theorem tiz16 : ti16.zero = some zv16 := by kernel_rfl
@[go_sem ↓] theorem zvs16 : zv16.cells.size = 1 := by kernel_rfl
@[go_sem ↓] theorem zvo16 : zv16.cells.toList.all (fun v => v.oneCell') = true := by kernel_rfl
@[go_sem ↓] theorem zvv16 : zv16.cells.toList.map vOf = [.nilp] := by kernel_rfl
@[go_sem] theorem und_17 : Try.prog.underlying 17 = some (.pointer 214) := by kernel_rfl
noncomputable def ti17 : TypeInfo := (Try.prog.info? 17).getD default
@[go_sem] theorem inf_17 : Try.prog.info? 17 = some ti17 := by kernel_rfl
@[go_sem] theorem tis17 : ti17.size = 1 := by kernel_rfl
@[go_sem] theorem tib17 : ti17.bytes = 8 := by kernel_rfl
noncomputable def zv17 : Value := (ti17.zero).getD Go.undef
@[go_sem] theorem tiz17 : ti17.zero = some zv17 := by kernel_rfl
@[go_sem ↓] theorem zvs17 : zv17.cells.size = 1 := by kernel_rfl
@[go_sem ↓] theorem zvo17 : zv17.cells.toList.all (fun v => v.oneCell') = true := by kernel_rfl
@[go_sem ↓] theorem zvv17 : zv17.cells.toList.map vOf = [.nilp] := by kernel_rfl
noncomputable def fs18 : Array Field := match Try.prog.underlying 18 with | some (.struct fs) => fs | _ => #[]
@[go_sem] theorem und_18 : Try.prog.underlying 18 = some (.struct fs18) := by kernel_rfl
noncomputable def fd18_0 : Field := (fs18[0]?).getD default
@[go_sem] theorem fg18_0 : fs18[0]? = some fd18_0 := by kernel_rfl
@[go_sem] theorem ft18_0 : fd18_0.type = 17 := by kernel_rfl
@[go_sem] theorem fo18_0 : fd18_0.offset = 0 := by kernel_rfl
@[go_sem] theorem pl18 : fs18.toList.mapM (fun f => (Try.prog.info? f.type).map fun i => (f.offset, i.size)) = some [(0, 1)] := by kernel_rfl
noncomputable def ti18 : TypeInfo := (Try.prog.info? 18).getD default
@[go_sem] theorem inf_18 : Try.prog.info? 18 = some ti18 := by kernel_rfl
@[go_sem] theorem tis18 : ti18.size = 1 := by kernel_rfl
@[go_sem] theorem tib18 : ti18.bytes = 8 := by kernel_rfl
noncomputable def zv18 : Value := (ti18.zero).getD Go.undef
@[go_sem] theorem tiz18 : ti18.zero = some zv18 := by kernel_rfl
@[go_sem ↓] theorem zvs18 : zv18.cells.size = 1 := by kernel_rfl
@[go_sem ↓] theorem zvo18 : zv18.cells.toList.all (fun v => v.oneCell') = true := by kernel_rfl
@[go_sem ↓] theorem zvv18 : zv18.cells.toList.map vOf = [.nilp] := by kernel_rfl
noncomputable def fs19 : Array Field := match Try.prog.underlying 19 with | some (.struct fs) => fs | _ => #[]
@[go_sem] theorem und_19 : Try.prog.underlying 19 = some (.struct fs19) := by kernel_rfl
noncomputable def fd19_0 : Field := (fs19[0]?).getD default
@[go_sem] theorem fg19_0 : fs19[0]? = some fd19_0 := by kernel_rfl
@[go_sem] theorem ft19_0 : fd19_0.type = 17 := by kernel_rfl
@[go_sem] theorem fo19_0 : fd19_0.offset = 0 := by kernel_rfl
@[go_sem] theorem pl19 : fs19.toList.mapM (fun f => (Try.prog.info? f.type).map fun i => (f.offset, i.size)) = some [(0, 1)] := by kernel_rfl
noncomputable def ti19 : TypeInfo := (Try.prog.info? 19).getD default
@[go_sem] theorem inf_19 : Try.prog.info? 19 = some ti19 := by kernel_rfl
@[go_sem] theorem tis19 : ti19.size = 1 := by kernel_rfl
@[go_sem] theorem tib19 : ti19.bytes = 8 := by kernel_rfl
noncomputable def zv19 : Value := (ti19.zero).getD Go.undef
@[go_sem] theorem tiz19 : ti19.zero = some zv19 := by kernel_rfl
@[go_sem ↓] theorem zvs19 : zv19.cells.size = 1 := by kernel_rfl
@[go_sem ↓] theorem zvo19 : zv19.cells.toList.all (fun v => v.oneCell') = true := by kernel_rfl
@[go_sem ↓] theorem zvv19 : zv19.cells.toList.map vOf = [.nilp] := by kernel_rfl
@[go_sem] theorem und_21 : Try.prog.underlying 21 = some (.int .i32) := by kernel_rfl
noncomputable def ti21 : TypeInfo := (Try.prog.info? 21).getD default
@[go_sem] theorem inf_21 : Try.prog.info? 21 = some ti21 := by kernel_rfl
@[go_sem] theorem tis21 : ti21.size = 1 := by kernel_rfl
@[go_sem] theorem tib21 : ti21.bytes = 4 := by kernel_rfl
noncomputable def zv21 : Value := (ti21.zero).getD Go.undef
@[go_sem] theorem tiz21 : ti21.zero = some zv21 := by kernel_rfl
@[go_sem ↓] theorem zvs21 : zv21.cells.size = 1 := by kernel_rfl
@[go_sem ↓] theorem zvo21 : zv21.cells.toList.all (fun v => v.oneCell') = true := by kernel_rfl
@[go_sem ↓] theorem zvv21 : zv21.cells.toList.map vOf = [.int .i32 0] := by kernel_rfl
noncomputable def fs22 : Array Field := match Try.prog.underlying 22 with | some (.struct fs) => fs | _ => #[]
@[go_sem] theorem und_22 : Try.prog.underlying 22 = some (.struct fs22) := by kernel_rfl
noncomputable def fd22_0 : Field := (fs22[0]?).getD default
@[go_sem] theorem fg22_0 : fs22[0]? = some fd22_0 := by kernel_rfl
@[go_sem] theorem ft22_0 : fd22_0.type = 3 := by kernel_rfl
@[go_sem] theorem fo22_0 : fd22_0.offset = 0 := by kernel_rfl
noncomputable def fd22_1 : Field := (fs22[1]?).getD default
@[go_sem] theorem fg22_1 : fs22[1]? = some fd22_1 := by kernel_rfl
@[go_sem] theorem ft22_1 : fd22_1.type = 3 := by kernel_rfl
@[go_sem] theorem fo22_1 : fd22_1.offset = 1 := by kernel_rfl
noncomputable def fd22_2 : Field := (fs22[2]?).getD default
@[go_sem] theorem fg22_2 : fs22[2]? = some fd22_2 := by kernel_rfl
@[go_sem] theorem ft22_2 : fd22_2.type = 3 := by kernel_rfl
@[go_sem] theorem fo22_2 : fd22_2.offset = 2 := by kernel_rfl
noncomputable def fd22_3 : Field := (fs22[3]?).getD default
@[go_sem] theorem fg22_3 : fs22[3]? = some fd22_3 := by kernel_rfl
@[go_sem] theorem ft22_3 : fd22_3.type = 3 := by kernel_rfl
@[go_sem] theorem fo22_3 : fd22_3.offset = 3 := by kernel_rfl
noncomputable def fd22_4 : Field := (fs22[4]?).getD default
@[go_sem] theorem fg22_4 : fs22[4]? = some fd22_4 := by kernel_rfl
@[go_sem] theorem ft22_4 : fd22_4.type = 3 := by kernel_rfl
@[go_sem] theorem fo22_4 : fd22_4.offset = 4 := by kernel_rfl
noncomputable def fd22_5 : Field := (fs22[5]?).getD default
@[go_sem] theorem fg22_5 : fs22[5]? = some fd22_5 := by kernel_rfl
@[go_sem] theorem ft22_5 : fd22_5.type = 3 := by kernel_rfl
@[go_sem] theorem fo22_5 : fd22_5.offset = 5 := by kernel_rfl
noncomputable def fd22_6 : Field := (fs22[6]?).getD default
@[go_sem] theorem fg22_6 : fs22[6]? = some fd22_6 := by kernel_rfl
@[go_sem] theorem ft22_6 : fd22_6.type = 3 := by kernel_rfl
@[go_sem] theorem fo22_6 : fd22_6.offset = 6 := by kernel_rfl
noncomputable def fd22_7 : Field := (fs22[7]?).getD default
@[go_sem] theorem fg22_7 : fs22[7]? = some fd22_7 := by kernel_rfl
@[go_sem] theorem ft22_7 : fd22_7.type = 3 := by kernel_rfl
@[go_sem] theorem fo22_7 : fd22_7.offset = 7 := by kernel_rfl
@[go_sem] theorem pl22 : fs22.toList.mapM (fun f => (Try.prog.info? f.type).map fun i => (f.offset, i.size)) = some [(0, 1), (1, 1), (2, 1), (3, 1), (4, 1), (5, 1), (6, 1), (7, 1)] := by kernel_rfl
noncomputable def ti22 : TypeInfo := (Try.prog.info? 22).getD default
@[go_sem] theorem inf_22 : Try.prog.info? 22 = some ti22 := by kernel_rfl
@[go_sem] theorem tis22 : ti22.size = 8 := by kernel_rfl
@[go_sem] theorem tib22 : ti22.bytes = 64 := by kernel_rfl
noncomputable def zv22 : Value := (ti22.zero).getD Go.undef
@[go_sem] theorem tiz22 : ti22.zero = some zv22 := by kernel_rfl
@[go_sem ↓] theorem zvs22 : zv22.cells.size = 8 := by kernel_rfl
@[go_sem ↓] theorem zvo22 : zv22.cells.toList.all (fun v => v.oneCell') = true := by kernel_rfl
@[go_sem ↓] theorem zvv22 : zv22.cells.toList.map vOf = [.int .i64 0, .int .i64 0, .int .i64 0, .int .i64 0, .int .i64 0, .int .i64 0, .int .i64 0, .int .i64 0] := by kernel_rfl
noncomputable def fs23 : Array Field := match Try.prog.underlying 23 with | some (.struct fs) => fs | _ => #[]
@[go_sem] theorem und_23 : Try.prog.underlying 23 = some (.struct fs23) := by kernel_rfl
noncomputable def fd23_0 : Field := (fs23[0]?).getD default
@[go_sem] theorem fg23_0 : fs23[0]? = some fd23_0 := by kernel_rfl
@[go_sem] theorem ft23_0 : fd23_0.type = 3 := by kernel_rfl
@[go_sem] theorem fo23_0 : fd23_0.offset = 0 := by kernel_rfl
noncomputable def fd23_1 : Field := (fs23[1]?).getD default
@[go_sem] theorem fg23_1 : fs23[1]? = some fd23_1 := by kernel_rfl
@[go_sem] theorem ft23_1 : fd23_1.type = 3 := by kernel_rfl
@[go_sem] theorem fo23_1 : fd23_1.offset = 1 := by kernel_rfl
noncomputable def fd23_2 : Field := (fs23[2]?).getD default
@[go_sem] theorem fg23_2 : fs23[2]? = some fd23_2 := by kernel_rfl
@[go_sem] theorem ft23_2 : fd23_2.type = 3 := by kernel_rfl
@[go_sem] theorem fo23_2 : fd23_2.offset = 2 := by kernel_rfl
noncomputable def fd23_3 : Field := (fs23[3]?).getD default
@[go_sem] theorem fg23_3 : fs23[3]? = some fd23_3 := by kernel_rfl
@[go_sem] theorem ft23_3 : fd23_3.type = 3 := by kernel_rfl
@[go_sem] theorem fo23_3 : fd23_3.offset = 3 := by kernel_rfl
noncomputable def fd23_4 : Field := (fs23[4]?).getD default
@[go_sem] theorem fg23_4 : fs23[4]? = some fd23_4 := by kernel_rfl
@[go_sem] theorem ft23_4 : fd23_4.type = 3 := by kernel_rfl
@[go_sem] theorem fo23_4 : fd23_4.offset = 4 := by kernel_rfl
noncomputable def fd23_5 : Field := (fs23[5]?).getD default
@[go_sem] theorem fg23_5 : fs23[5]? = some fd23_5 := by kernel_rfl
@[go_sem] theorem ft23_5 : fd23_5.type = 3 := by kernel_rfl
@[go_sem] theorem fo23_5 : fd23_5.offset = 5 := by kernel_rfl
noncomputable def fd23_6 : Field := (fs23[6]?).getD default
@[go_sem] theorem fg23_6 : fs23[6]? = some fd23_6 := by kernel_rfl
@[go_sem] theorem ft23_6 : fd23_6.type = 3 := by kernel_rfl
@[go_sem] theorem fo23_6 : fd23_6.offset = 6 := by kernel_rfl
noncomputable def fd23_7 : Field := (fs23[7]?).getD default
@[go_sem] theorem fg23_7 : fs23[7]? = some fd23_7 := by kernel_rfl
@[go_sem] theorem ft23_7 : fd23_7.type = 3 := by kernel_rfl
@[go_sem] theorem fo23_7 : fd23_7.offset = 7 := by kernel_rfl
@[go_sem] theorem pl23 : fs23.toList.mapM (fun f => (Try.prog.info? f.type).map fun i => (f.offset, i.size)) = some [(0, 1), (1, 1), (2, 1), (3, 1), (4, 1), (5, 1), (6, 1), (7, 1)] := by kernel_rfl
noncomputable def ti23 : TypeInfo := (Try.prog.info? 23).getD default
@[go_sem] theorem inf_23 : Try.prog.info? 23 = some ti23 := by kernel_rfl
@[go_sem] theorem tis23 : ti23.size = 8 := by kernel_rfl
@[go_sem] theorem tib23 : ti23.bytes = 64 := by kernel_rfl
noncomputable def zv23 : Value := (ti23.zero).getD Go.undef
@[go_sem] theorem tiz23 : ti23.zero = some zv23 := by kernel_rfl
@[go_sem ↓] theorem zvs23 : zv23.cells.size = 8 := by kernel_rfl
@[go_sem ↓] theorem zvo23 : zv23.cells.toList.all (fun v => v.oneCell') = true := by kernel_rfl
@[go_sem ↓] theorem zvv23 : zv23.cells.toList.map vOf = [.int .i64 0, .int .i64 0, .int .i64 0, .int .i64 0, .int .i64 0, .int .i64 0, .int .i64 0, .int .i64 0] := by kernel_rfl
@[go_sem] theorem und_24 : Try.prog.underlying 24 = some (.slice 73) := by kernel_rfl
noncomputable def ti24 : TypeInfo := (Try.prog.info? 24).getD default
@[go_sem] theorem inf_24 : Try.prog.info? 24 = some ti24 := by kernel_rfl
@[go_sem] theorem tis24 : ti24.size = 1 := by kernel_rfl
@[go_sem] theorem tib24 : ti24.bytes = 24 := by kernel_rfl
noncomputable def zv24 : Value := (ti24.zero).getD Go.undef
@[go_sem] theorem tiz24 : ti24.zero = some zv24 := by kernel_rfl
@[go_sem ↓] theorem zvs24 : zv24.cells.size = 1 := by kernel_rfl
@[go_sem ↓] theorem zvo24 : zv24.cells.toList.all (fun v => v.oneCell') = true := by kernel_rfl
@[go_sem ↓] theorem zvv24 : zv24.cells.toList.map vOf = [.sl [] true] := by kernel_rfl
@[go_sem] theorem und_25 : Try.prog.underlying 25 = some (.int .u64) := by kernel_rfl
noncomputable def ti25 : TypeInfo := (Try.prog.info? 25).getD default
@[go_sem] theorem inf_25 : Try.prog.info? 25 = some ti25 := by kernel_rfl
@[go_sem] theorem tis25 : ti25.size = 1 := by kernel_rfl
@[go_sem] theorem tib25 : ti25.bytes = 8 := by kernel_rfl
noncomputable def zv25 : Value := (ti25.zero).getD Go.undef
@[go_sem] theorem tiz25 : ti25.zero = some zv25 := by kernel_rfl
@[go_sem ↓] theorem zvs25 : zv25.cells.size = 1 := by kernel_rfl
@[go_sem ↓] theorem zvo25 : zv25.cells.toList.all (fun v => v.oneCell') = true := by kernel_rfl
@[go_sem ↓] theorem zvv25 : zv25.cells.toList.map vOf = [.int .u64 0] := by kernel_rfl
@[go_sem] theorem und_29 : Try.prog.underlying 29 = some (.slice 9) := by kernel_rfl
noncomputable def ti29 : TypeInfo := (Try.prog.info? 29).getD default
@[go_sem] theorem inf_29 : Try.prog.info? 29 = some ti29 := by kernel_rfl
@[go_sem] theorem tis29 : ti29.size = 1 := by kernel_rfl
@[go_sem] theorem tib29 : ti29.bytes = 24 := by kernel_rfl
noncomputable def zv29 : Value := (ti29.zero).getD Go.undef
@[go_sem] theorem tiz29 : ti29.zero = some zv29 := by kernel_rfl
@[go_sem ↓] theorem zvs29 : zv29.cells.size = 1 := by kernel_rfl
@[go_sem ↓] theorem zvo29 : zv29.cells.toList.all (fun v => v.oneCell') = true := by kernel_rfl
@[go_sem ↓] theorem zvv29 : zv29.cells.toList.map vOf = [.sl [] true] := by kernel_rfl
@[go_sem] theorem und_30 : Try.prog.underlying 30 = some (.int .i64) := by kernel_rfl
noncomputable def ti30 : TypeInfo := (Try.prog.info? 30).getD default
@[go_sem] theorem inf_30 : Try.prog.info? 30 = some ti30 := by kernel_rfl
@[go_sem] theorem tis30 : ti30.size = 1 := by kernel_rfl
@[go_sem] theorem tib30 : ti30.bytes = 8 := by kernel_rfl
noncomputable def zv30 : Value := (ti30.zero).getD Go.undef
@[go_sem] theorem tiz30 : ti30.zero = some zv30 := by kernel_rfl
@[go_sem ↓] theorem zvs30 : zv30.cells.size = 1 := by kernel_rfl
@[go_sem ↓] theorem zvo30 : zv30.cells.toList.all (fun v => v.oneCell') = true := by kernel_rfl
@[go_sem ↓] theorem zvv30 : zv30.cells.toList.map vOf = [.int .i64 0] := by kernel_rfl
@[go_sem] theorem und_33 : Try.prog.underlying 33 = some (.slice 48) := by kernel_rfl
noncomputable def ti33 : TypeInfo := (Try.prog.info? 33).getD default
@[go_sem] theorem inf_33 : Try.prog.info? 33 = some ti33 := by kernel_rfl
@[go_sem] theorem tis33 : ti33.size = 1 := by kernel_rfl
@[go_sem] theorem tib33 : ti33.bytes = 24 := by kernel_rfl
noncomputable def zv33 : Value := (ti33.zero).getD Go.undef
@[go_sem] theorem tiz33 : ti33.zero = some zv33 := by kernel_rfl
@[go_sem ↓] theorem zvs33 : zv33.cells.size = 1 := by kernel_rfl
@[go_sem ↓] theorem zvo33 : zv33.cells.toList.all (fun v => v.oneCell') = true := by kernel_rfl
@[go_sem ↓] theorem zvv33 : zv33.cells.toList.map vOf = [.sl [] true] := by kernel_rfl
@[go_sem] theorem und_34 : Try.prog.underlying 34 = some (.slice 3) := by kernel_rfl
noncomputable def ti34 : TypeInfo := (Try.prog.info? 34).getD default
@[go_sem] theorem inf_34 : Try.prog.info? 34 = some ti34 := by kernel_rfl
@[go_sem] theorem tis34 : ti34.size = 1 := by kernel_rfl
@[go_sem] theorem tib34 : ti34.bytes = 24 := by kernel_rfl
noncomputable def zv34 : Value := (ti34.zero).getD Go.undef
@[go_sem] theorem tiz34 : ti34.zero = some zv34 := by kernel_rfl
@[go_sem ↓] theorem zvs34 : zv34.cells.size = 1 := by kernel_rfl
@[go_sem ↓] theorem zvo34 : zv34.cells.toList.all (fun v => v.oneCell') = true := by kernel_rfl
@[go_sem ↓] theorem zvv34 : zv34.cells.toList.map vOf = [.sl [] true] := by kernel_rfl
noncomputable def fs35 : Array Field := match Try.prog.underlying 35 with | some (.struct fs) => fs | _ => #[]
@[go_sem] theorem und_35 : Try.prog.underlying 35 = some (.struct fs35) := by kernel_rfl
noncomputable def fd35_0 : Field := (fs35[0]?).getD default
@[go_sem] theorem fg35_0 : fs35[0]? = some fd35_0 := by kernel_rfl
@[go_sem] theorem ft35_0 : fd35_0.type = 29 := by kernel_rfl
@[go_sem] theorem fo35_0 : fd35_0.offset = 0 := by kernel_rfl
noncomputable def fd35_1 : Field := (fs35[1]?).getD default
@[go_sem] theorem fg35_1 : fs35[1]? = some fd35_1 := by kernel_rfl
@[go_sem] theorem ft35_1 : fd35_1.type = 33 := by kernel_rfl
@[go_sem] theorem fo35_1 : fd35_1.offset = 1 := by kernel_rfl
noncomputable def fd35_2 : Field := (fs35[2]?).getD default
@[go_sem] theorem fg35_2 : fs35[2]? = some fd35_2 := by kernel_rfl
@[go_sem] theorem ft35_2 : fd35_2.type = 34 := by kernel_rfl
@[go_sem] theorem fo35_2 : fd35_2.offset = 2 := by kernel_rfl
noncomputable def fd35_3 : Field := (fs35[3]?).getD default
@[go_sem] theorem fg35_3 : fs35[3]? = some fd35_3 := by kernel_rfl
@[go_sem] theorem ft35_3 : fd35_3.type = 3 := by kernel_rfl
@[go_sem] theorem fo35_3 : fd35_3.offset = 3 := by kernel_rfl
noncomputable def fd35_4 : Field := (fs35[4]?).getD default
@[go_sem] theorem fg35_4 : fs35[4]? = some fd35_4 := by kernel_rfl
@[go_sem] theorem ft35_4 : fd35_4.type = 34 := by kernel_rfl
@[go_sem] theorem fo35_4 : fd35_4.offset = 4 := by kernel_rfl
@[go_sem] theorem pl35 : fs35.toList.mapM (fun f => (Try.prog.info? f.type).map fun i => (f.offset, i.size)) = some [(0, 1), (1, 1), (2, 1), (3, 1), (4, 1)] := by kernel_rfl
noncomputable def ti35 : TypeInfo := (Try.prog.info? 35).getD default
@[go_sem] theorem inf_35 : Try.prog.info? 35 = some ti35 := by kernel_rfl
@[go_sem] theorem tis35 : ti35.size = 5 := by kernel_rfl
@[go_sem] theorem tib35 : ti35.bytes = 104 := by kernel_rfl
noncomputable def zv35 : Value := (ti35.zero).getD Go.undef
@[go_sem] theorem tiz35 : ti35.zero = some zv35 := by kernel_rfl
@[go_sem ↓] theorem zvs35 : zv35.cells.size = 5 := by kernel_rfl
@[go_sem ↓] theorem zvo35 : zv35.cells.toList.all (fun v => v.oneCell') = true := by kernel_rfl
@[go_sem ↓] theorem zvv35 : zv35.cells.toList.map vOf = [.sl [] true, .sl [] true, .sl [] true, .int .i64 0, .sl [] true] := by kernel_rfl
noncomputable def fs36 : Array Field := match Try.prog.underlying 36 with | some (.struct fs) => fs | _ => #[]
@[go_sem] theorem und_36 : Try.prog.underlying 36 = some (.struct fs36) := by kernel_rfl
noncomputable def fd36_0 : Field := (fs36[0]?).getD default
@[go_sem] theorem fg36_0 : fs36[0]? = some fd36_0 := by kernel_rfl
@[go_sem] theorem ft36_0 : fd36_0.type = 29 := by kernel_rfl
@[go_sem] theorem fo36_0 : fd36_0.offset = 0 := by kernel_rfl
noncomputable def fd36_1 : Field := (fs36[1]?).getD default
@[go_sem] theorem fg36_1 : fs36[1]? = some fd36_1 := by kernel_rfl
@[go_sem] theorem ft36_1 : fd36_1.type = 33 := by kernel_rfl
@[go_sem] theorem fo36_1 : fd36_1.offset = 1 := by kernel_rfl
noncomputable def fd36_2 : Field := (fs36[2]?).getD default
@[go_sem] theorem fg36_2 : fs36[2]? = some fd36_2 := by kernel_rfl
@[go_sem] theorem ft36_2 : fd36_2.type = 34 := by kernel_rfl
@[go_sem] theorem fo36_2 : fd36_2.offset = 2 := by kernel_rfl
noncomputable def fd36_3 : Field := (fs36[3]?).getD default
@[go_sem] theorem fg36_3 : fs36[3]? = some fd36_3 := by kernel_rfl
@[go_sem] theorem ft36_3 : fd36_3.type = 3 := by kernel_rfl
@[go_sem] theorem fo36_3 : fd36_3.offset = 3 := by kernel_rfl
noncomputable def fd36_4 : Field := (fs36[4]?).getD default
@[go_sem] theorem fg36_4 : fs36[4]? = some fd36_4 := by kernel_rfl
@[go_sem] theorem ft36_4 : fd36_4.type = 34 := by kernel_rfl
@[go_sem] theorem fo36_4 : fd36_4.offset = 4 := by kernel_rfl
@[go_sem] theorem pl36 : fs36.toList.mapM (fun f => (Try.prog.info? f.type).map fun i => (f.offset, i.size)) = some [(0, 1), (1, 1), (2, 1), (3, 1), (4, 1)] := by kernel_rfl
noncomputable def ti36 : TypeInfo := (Try.prog.info? 36).getD default
@[go_sem] theorem inf_36 : Try.prog.info? 36 = some ti36 := by kernel_rfl
@[go_sem] theorem tis36 : ti36.size = 5 := by kernel_rfl
@[go_sem] theorem tib36 : ti36.bytes = 104 := by kernel_rfl
noncomputable def zv36 : Value := (ti36.zero).getD Go.undef
@[go_sem] theorem tiz36 : ti36.zero = some zv36 := by kernel_rfl
@[go_sem ↓] theorem zvs36 : zv36.cells.size = 5 := by kernel_rfl
@[go_sem ↓] theorem zvo36 : zv36.cells.toList.all (fun v => v.oneCell') = true := by kernel_rfl
@[go_sem ↓] theorem zvv36 : zv36.cells.toList.map vOf = [.sl [] true, .sl [] true, .sl [] true, .int .i64 0, .sl [] true] := by kernel_rfl
@[go_sem] theorem und_41 : Try.prog.underlying 41 = some (.int .i8) := by kernel_rfl
noncomputable def ti41 : TypeInfo := (Try.prog.info? 41).getD default
@[go_sem] theorem inf_41 : Try.prog.info? 41 = some ti41 := by kernel_rfl
@[go_sem] theorem tis41 : ti41.size = 1 := by kernel_rfl
@[go_sem] theorem tib41 : ti41.bytes = 1 := by kernel_rfl
noncomputable def zv41 : Value := (ti41.zero).getD Go.undef
@[go_sem] theorem tiz41 : ti41.zero = some zv41 := by kernel_rfl
@[go_sem ↓] theorem zvs41 : zv41.cells.size = 1 := by kernel_rfl
@[go_sem ↓] theorem zvo41 : zv41.cells.toList.all (fun v => v.oneCell') = true := by kernel_rfl
@[go_sem ↓] theorem zvv41 : zv41.cells.toList.map vOf = [.int .i8 0] := by kernel_rfl
noncomputable def fs42 : Array Field := match Try.prog.underlying 42 with | some (.struct fs) => fs | _ => #[]
@[go_sem] theorem und_42 : Try.prog.underlying 42 = some (.struct fs42) := by kernel_rfl
noncomputable def fd42_0 : Field := (fs42[0]?).getD default
@[go_sem] theorem fg42_0 : fs42[0]? = some fd42_0 := by kernel_rfl
@[go_sem] theorem ft42_0 : fd42_0.type = 41 := by kernel_rfl
@[go_sem] theorem fo42_0 : fd42_0.offset = 0 := by kernel_rfl
noncomputable def fd42_1 : Field := (fs42[1]?).getD default
@[go_sem] theorem fg42_1 : fs42[1]? = some fd42_1 := by kernel_rfl
@[go_sem] theorem ft42_1 : fd42_1.type = 3 := by kernel_rfl
@[go_sem] theorem fo42_1 : fd42_1.offset = 1 := by kernel_rfl
noncomputable def fd42_2 : Field := (fs42[2]?).getD default
@[go_sem] theorem fg42_2 : fs42[2]? = some fd42_2 := by kernel_rfl
@[go_sem] theorem ft42_2 : fd42_2.type = 9 := by kernel_rfl
@[go_sem] theorem fo42_2 : fd42_2.offset = 2 := by kernel_rfl
noncomputable def fd42_3 : Field := (fs42[3]?).getD default
@[go_sem] theorem fg42_3 : fs42[3]? = some fd42_3 := by kernel_rfl
@[go_sem] theorem ft42_3 : fd42_3.type = 3 := by kernel_rfl
@[go_sem] theorem fo42_3 : fd42_3.offset = 3 := by kernel_rfl
@[go_sem] theorem pl42 : fs42.toList.mapM (fun f => (Try.prog.info? f.type).map fun i => (f.offset, i.size)) = some [(0, 1), (1, 1), (2, 1), (3, 1)] := by kernel_rfl
noncomputable def ti42 : TypeInfo := (Try.prog.info? 42).getD default
@[go_sem] theorem inf_42 : Try.prog.info? 42 = some ti42 := by kernel_rfl
@[go_sem] theorem tis42 : ti42.size = 4 := by kernel_rfl
@[go_sem] theorem tib42 : ti42.bytes = 40 := by kernel_rfl
noncomputable def zv42 : Value := (ti42.zero).getD Go.undef
@[go_sem] theorem tiz42 : ti42.zero = some zv42 := by kernel_rfl
@[go_sem ↓] theorem zvs42 : zv42.cells.size = 4 := by kernel_rfl
@[go_sem ↓] theorem zvo42 : zv42.cells.toList.all (fun v => v.oneCell') = true := by kernel_rfl
@[go_sem ↓] theorem zvv42 : zv42.cells.toList.map vOf = [.int .i8 0, .int .i64 0, .str ⟨#[]⟩, .int .i64 0] := by kernel_rfl
noncomputable def fs43 : Array Field := match Try.prog.underlying 43 with | some (.struct fs) => fs | _ => #[]
@[go_sem] theorem und_43 : Try.prog.underlying 43 = some (.struct fs43) := by kernel_rfl
noncomputable def fd43_0 : Field := (fs43[0]?).getD default
@[go_sem] theorem fg43_0 : fs43[0]? = some fd43_0 := by kernel_rfl
@[go_sem] theorem ft43_0 : fd43_0.type = 41 := by kernel_rfl
@[go_sem] theorem fo43_0 : fd43_0.offset = 0 := by kernel_rfl
noncomputable def fd43_1 : Field := (fs43[1]?).getD default
@[go_sem] theorem fg43_1 : fs43[1]? = some fd43_1 := by kernel_rfl
@[go_sem] theorem ft43_1 : fd43_1.type = 3 := by kernel_rfl
@[go_sem] theorem fo43_1 : fd43_1.offset = 1 := by kernel_rfl
noncomputable def fd43_2 : Field := (fs43[2]?).getD default
@[go_sem] theorem fg43_2 : fs43[2]? = some fd43_2 := by kernel_rfl
@[go_sem] theorem ft43_2 : fd43_2.type = 9 := by kernel_rfl
@[go_sem] theorem fo43_2 : fd43_2.offset = 2 := by kernel_rfl
noncomputable def fd43_3 : Field := (fs43[3]?).getD default
@[go_sem] theorem fg43_3 : fs43[3]? = some fd43_3 := by kernel_rfl
@[go_sem] theorem ft43_3 : fd43_3.type = 3 := by kernel_rfl
@[go_sem] theorem fo43_3 : fd43_3.offset = 3 := by kernel_rfl
@[go_sem] theorem pl43 : fs43.toList.mapM (fun f => (Try.prog.info? f.type).map fun i => (f.offset, i.size)) = some [(0, 1), (1, 1), (2, 1), (3, 1)] := by kernel_rfl
noncomputable def ti43 : TypeInfo := (Try.prog.info? 43).getD default
@[go_sem] theorem inf_43 : Try.prog.info? 43 = some ti43 := by kernel_rfl
@[go_sem] theorem tis43 : ti43.size = 4 := by kernel_rfl
@[go_sem] theorem tib43 : ti43.bytes = 40 := by kernel_rfl
noncomputable def zv43 : Value := (ti43.zero).getD Go.undef
@[go_sem] theorem tiz43 : ti43.zero = some zv43 := by kernel_rfl
@[go_sem ↓] theorem zvs43 : zv43.cells.size = 4 := by kernel_rfl
@[go_sem ↓] theorem zvo43 : zv43.cells.toList.all (fun v => v.oneCell') = true := by kernel_rfl
@[go_sem ↓] theorem zvv43 : zv43.cells.toList.map vOf = [.int .i8 0, .int .i64 0, .str ⟨#[]⟩, .int .i64 0] := by kernel_rfl
@[go_sem] theorem und_44 : Try.prog.underlying 44 = some (.slice 43) := by kernel_rfl
noncomputable def ti44 : TypeInfo := (Try.prog.info? 44).getD default
@[go_sem] theorem inf_44 : Try.prog.info? 44 = some ti44 := by kernel_rfl
@[go_sem] theorem tis44 : ti44.size = 1 := by kernel_rfl
@[go_sem] theorem tib44 : ti44.bytes = 24 := by kernel_rfl
noncomputable def zv44 : Value := (ti44.zero).getD Go.undef
@[go_sem] theorem tiz44 : ti44.zero = some zv44 := by kernel_rfl
@[go_sem ↓] theorem zvs44 : zv44.cells.size = 1 := by kernel_rfl
@[go_sem ↓] theorem zvo44 : zv44.cells.toList.all (fun v => v.oneCell') = true := by kernel_rfl
@[go_sem ↓] theorem zvv44 : zv44.cells.toList.map vOf = [.sl [] true] := by kernel_rfl
@[go_sem] theorem und_48 : Try.prog.underlying 48 = some (.slice 52) := by kernel_rfl
noncomputable def ti48 : TypeInfo := (Try.prog.info? 48).getD default
@[go_sem] theorem inf_48 : Try.prog.info? 48 = some ti48 := by kernel_rfl
@[go_sem] theorem tis48 : ti48.size = 1 := by kernel_rfl
@[go_sem] theorem tib48 : ti48.bytes = 24 := by kernel_rfl
noncomputable def zv48 : Value := (ti48.zero).getD Go.undef
@[go_sem] theorem tiz48 : ti48.zero = some zv48 := by kernel_rfl
@[go_sem ↓] theorem zvs48 : zv48.cells.size = 1 := by kernel_rfl
@[go_sem ↓] theorem zvo48 : zv48.cells.toList.all (fun v => v.oneCell') = true := by kernel_rfl
@[go_sem ↓] theorem zvv48 : zv48.cells.toList.map vOf = [.sl [] true] := by kernel_rfl
noncomputable def fs51 : Array Field := match Try.prog.underlying 51 with | some (.struct fs) => fs | _ => #[]
@[go_sem] theorem und_51 : Try.prog.underlying 51 = some (.struct fs51) := by kernel_rfl
noncomputable def fd51_0 : Field := (fs51[0]?).getD default
@[go_sem] theorem fg51_0 : fs51[0]? = some fd51_0 := by kernel_rfl
@[go_sem] theorem ft51_0 : fd51_0.type = 3 := by kernel_rfl
@[go_sem] theorem fo51_0 : fd51_0.offset = 0 := by kernel_rfl
noncomputable def fd51_1 : Field := (fs51[1]?).getD default
@[go_sem] theorem fg51_1 : fs51[1]? = some fd51_1 := by kernel_rfl
@[go_sem] theorem ft51_1 : fd51_1.type = 9 := by kernel_rfl
@[go_sem] theorem fo51_1 : fd51_1.offset = 1 := by kernel_rfl
@[go_sem] theorem pl51 : fs51.toList.mapM (fun f => (Try.prog.info? f.type).map fun i => (f.offset, i.size)) = some [(0, 1), (1, 1)] := by kernel_rfl
noncomputable def ti51 : TypeInfo := (Try.prog.info? 51).getD default
@[go_sem] theorem inf_51 : Try.prog.info? 51 = some ti51 := by kernel_rfl
@[go_sem] theorem tis51 : ti51.size = 2 := by kernel_rfl
@[go_sem] theorem tib51 : ti51.bytes = 24 := by kernel_rfl
noncomputable def zv51 : Value := (ti51.zero).getD Go.undef
@[go_sem] theorem tiz51 : ti51.zero = some zv51 := by kernel_rfl
@[go_sem ↓] theorem zvs51 : zv51.cells.size = 2 := by kernel_rfl
@[go_sem ↓] theorem zvo51 : zv51.cells.toList.all (fun v => v.oneCell') = true := by kernel_rfl
@[go_sem ↓] theorem zvv51 : zv51.cells.toList.map vOf = [.int .i64 0, .str ⟨#[]⟩] := by kernel_rfl
noncomputable def fs52 : Array Field := match Try.prog.underlying 52 with | some (.struct fs) => fs | _ => #[]
@[go_sem] theorem und_52 : Try.prog.underlying 52 = some (.struct fs52) := by kernel_rfl
noncomputable def fd52_0 : Field := (fs52[0]?).getD default
@[go_sem] theorem fg52_0 : fs52[0]? = some fd52_0 := by kernel_rfl
@[go_sem] theorem ft52_0 : fd52_0.type = 3 := by kernel_rfl
@[go_sem] theorem fo52_0 : fd52_0.offset = 0 := by kernel_rfl
noncomputable def fd52_1 : Field := (fs52[1]?).getD default
@[go_sem] theorem fg52_1 : fs52[1]? = some fd52_1 := by kernel_rfl
@[go_sem] theorem ft52_1 : fd52_1.type = 9 := by kernel_rfl
@[go_sem] theorem fo52_1 : fd52_1.offset = 1 := by kernel_rfl
@[go_sem] theorem pl52 : fs52.toList.mapM (fun f => (Try.prog.info? f.type).map fun i => (f.offset, i.size)) = some [(0, 1), (1, 1)] := by kernel_rfl
noncomputable def ti52 : TypeInfo := (Try.prog.info? 52).getD default
@[go_sem] theorem inf_52 : Try.prog.info? 52 = some ti52 := by kernel_rfl
@[go_sem] theorem tis52 : ti52.size = 2 := by kernel_rfl
@[go_sem] theorem tib52 : ti52.bytes = 24 := by kernel_rfl
noncomputable def zv52 : Value := (ti52.zero).getD Go.undef
@[go_sem] theorem tiz52 : ti52.zero = some zv52 := by kernel_rfl
@[go_sem ↓] theorem zvs52 : zv52.cells.size = 2 := by kernel_rfl
@[go_sem ↓] theorem zvo52 : zv52.cells.toList.all (fun v => v.oneCell') = true := by kernel_rfl
@[go_sem ↓] theorem zvv52 : zv52.cells.toList.map vOf = [.int .i64 0, .str ⟨#[]⟩] := by kernel_rfl
@[go_sem] theorem und_57 : Try.prog.underlying 57 = some (.slice 4) := by kernel_rfl
noncomputable def ti57 : TypeInfo := (Try.prog.info? 57).getD default
@[go_sem] theorem inf_57 : Try.prog.info? 57 = some ti57 := by kernel_rfl
@[go_sem] theorem tis57 : ti57.size = 1 := by kernel_rfl
@[go_sem] theorem tib57 : ti57.bytes = 24 := by kernel_rfl
noncomputable def zv57 : Value := (ti57.zero).getD Go.undef
@[go_sem] theorem tiz57 : ti57.zero = some zv57 := by kernel_rfl
@[go_sem ↓] theorem zvs57 : zv57.cells.size = 1 := by kernel_rfl
@[go_sem ↓] theorem zvo57 : zv57.cells.toList.all (fun v => v.oneCell') = true := by kernel_rfl
@[go_sem ↓] theorem zvv57 : zv57.cells.toList.map vOf = [.sl [] true] := by kernel_rfl
@[go_sem] theorem und_58 : Try.prog.underlying 58 = some (.slice 5) := by kernel_rfl
noncomputable def ti58 : TypeInfo := (Try.prog.info? 58).getD default
@[go_sem] theorem inf_58 : Try.prog.info? 58 = some ti58 := by kernel_rfl
@[go_sem] theorem tis58 : ti58.size = 1 := by kernel_rfl
@[go_sem] theorem tib58 : ti58.bytes = 24 := by kernel_rfl
noncomputable def zv58 : Value := (ti58.zero).getD Go.undef
@[go_sem] theorem tiz58 : ti58.zero = some zv58 := by kernel_rfl
@[go_sem ↓] theorem zvs58 : zv58.cells.size = 1 := by kernel_rfl
@[go_sem ↓] theorem zvo58 : zv58.cells.toList.all (fun v => v.oneCell') = true := by kernel_rfl
@[go_sem ↓] theorem zvv58 : zv58.cells.toList.map vOf = [.sl [] true] := by kernel_rfl
@[go_sem] theorem und_62 : Try.prog.underlying 62 = some (.slice 66) := by kernel_rfl
noncomputable def ti62 : TypeInfo := (Try.prog.info? 62).getD default
@[go_sem] theorem inf_62 : Try.prog.info? 62 = some ti62 := by kernel_rfl
@[go_sem] theorem tis62 : ti62.size = 1 := by kernel_rfl
@[go_sem] theorem tib62 : ti62.bytes = 24 := by kernel_rfl
noncomputable def zv62 : Value := (ti62.zero).getD Go.undef
@[go_sem] theorem tiz62 : ti62.zero = some zv62 := by kernel_rfl
@[go_sem ↓] theorem zvs62 : zv62.cells.size = 1 := by kernel_rfl
@[go_sem ↓] theorem zvo62 : zv62.cells.toList.all (fun v => v.oneCell') = true := by kernel_rfl
@[go_sem ↓] theorem zvv62 : zv62.cells.toList.map vOf = [.sl [] true] := by kernel_rfl
noncomputable def fs65 : Array Field := match Try.prog.underlying 65 with | some (.struct fs) => fs | _ => #[]
@[go_sem] theorem und_65 : Try.prog.underlying 65 = some (.struct fs65) := by kernel_rfl
noncomputable def fd65_0 : Field := (fs65[0]?).getD default
@[go_sem] theorem fg65_0 : fs65[0]? = some fd65_0 := by kernel_rfl
@[go_sem] theorem ft65_0 : fd65_0.type = 3 := by kernel_rfl
@[go_sem] theorem fo65_0 : fd65_0.offset = 0 := by kernel_rfl
noncomputable def fd65_1 : Field := (fs65[1]?).getD default
@[go_sem] theorem fg65_1 : fs65[1]? = some fd65_1 := by kernel_rfl
@[go_sem] theorem ft65_1 : fd65_1.type = 3 := by kernel_rfl
@[go_sem] theorem fo65_1 : fd65_1.offset = 1 := by kernel_rfl
noncomputable def fd65_2 : Field := (fs65[2]?).getD default
@[go_sem] theorem fg65_2 : fs65[2]? = some fd65_2 := by kernel_rfl
@[go_sem] theorem ft65_2 : fd65_2.type = 43 := by kernel_rfl
@[go_sem] theorem fo65_2 : fd65_2.offset = 2 := by kernel_rfl
noncomputable def fd65_3 : Field := (fs65[3]?).getD default
@[go_sem] theorem fg65_3 : fs65[3]? = some fd65_3 := by kernel_rfl
@[go_sem] theorem ft65_3 : fd65_3.type = 25 := by kernel_rfl
@[go_sem] theorem fo65_3 : fd65_3.offset = 6 := by kernel_rfl
@[go_sem] theorem pl65 : fs65.toList.mapM (fun f => (Try.prog.info? f.type).map fun i => (f.offset, i.size)) = some [(0, 1), (1, 1), (2, 4), (6, 1)] := by kernel_rfl
noncomputable def ti65 : TypeInfo := (Try.prog.info? 65).getD default
@[go_sem] theorem inf_65 : Try.prog.info? 65 = some ti65 := by kernel_rfl
@[go_sem] theorem tis65 : ti65.size = 7 := by kernel_rfl
@[go_sem] theorem tib65 : ti65.bytes = 64 := by kernel_rfl
noncomputable def zv65 : Value := (ti65.zero).getD Go.undef
@[go_sem] theorem tiz65 : ti65.zero = some zv65 := by kernel_rfl
@[go_sem ↓] theorem zvs65 : zv65.cells.size = 7 := by kernel_rfl
@[go_sem ↓] theorem zvo65 : zv65.cells.toList.all (fun v => v.oneCell') = true := by kernel_rfl
@[go_sem ↓] theorem zvv65 : zv65.cells.toList.map vOf = [.int .i64 0, .int .i64 0, .int .i8 0, .int .i64 0, .str ⟨#[]⟩, .int .i64 0, .int .u64 0] := by kernel_rfl
noncomputable def fs66 : Array Field := match Try.prog.underlying 66 with | some (.struct fs) => fs | _ => #[]
@[go_sem] theorem und_66 : Try.prog.underlying 66 = some (.struct fs66) := by kernel_rfl
noncomputable def fd66_0 : Field := (fs66[0]?).getD default
@[go_sem] theorem fg66_0 : fs66[0]? = some fd66_0 := by kernel_rfl
@[go_sem] theorem ft66_0 : fd66_0.type = 3 := by kernel_rfl
@[go_sem] theorem fo66_0 : fd66_0.offset = 0 := by kernel_rfl
noncomputable def fd66_1 : Field := (fs66[1]?).getD default
@[go_sem] theorem fg66_1 : fs66[1]? = some fd66_1 := by kernel_rfl
@[go_sem] theorem ft66_1 : fd66_1.type = 3 := by kernel_rfl
@[go_sem] theorem fo66_1 : fd66_1.offset = 1 := by kernel_rfl
noncomputable def fd66_2 : Field := (fs66[2]?).getD default
@[go_sem] theorem fg66_2 : fs66[2]? = some fd66_2 := by kernel_rfl
@[go_sem] theorem ft66_2 : fd66_2.type = 43 := by kernel_rfl
@[go_sem] theorem fo66_2 : fd66_2.offset = 2 := by kernel_rfl
noncomputable def fd66_3 : Field := (fs66[3]?).getD default
@[go_sem] theorem fg66_3 : fs66[3]? = some fd66_3 := by kernel_rfl
@[go_sem] theorem ft66_3 : fd66_3.type = 25 := by kernel_rfl
@[go_sem] theorem fo66_3 : fd66_3.offset = 6 := by kernel_rfl
@[go_sem] theorem pl66 : fs66.toList.mapM (fun f => (Try.prog.info? f.type).map fun i => (f.offset, i.size)) = some [(0, 1), (1, 1), (2, 4), (6, 1)] := by kernel_rfl
noncomputable def ti66 : TypeInfo := (Try.prog.info? 66).getD default
@[go_sem] theorem inf_66 : Try.prog.info? 66 = some ti66 := by kernel_rfl
@[go_sem] theorem tis66 : ti66.size = 7 := by kernel_rfl
@[go_sem] theorem tib66 : ti66.bytes = 64 := by kernel_rfl
noncomputable def zv66 : Value := (ti66.zero).getD Go.undef
@[go_sem] theorem tiz66 : ti66.zero = some zv66 := by kernel_rfl
@[go_sem ↓] theorem zvs66 : zv66.cells.size = 7 := by kernel_rfl
@[go_sem ↓] theorem zvo66 : zv66.cells.toList.all (fun v => v.oneCell') = true := by kernel_rfl
@[go_sem ↓] theorem zvv66 : zv66.cells.toList.map vOf = [.int .i64 0, .int .i64 0, .int .i8 0, .int .i64 0, .str ⟨#[]⟩, .int .i64 0, .int .u64 0] := by kernel_rfl
noncomputable def fs72 : Array Field := match Try.prog.underlying 72 with | some (.struct fs) => fs | _ => #[]
@[go_sem] theorem und_72 : Try.prog.underlying 72 = some (.struct fs72) := by kernel_rfl
noncomputable def fd72_0 : Field := (fs72[0]?).getD default
@[go_sem] theorem fg72_0 : fs72[0]? = some fd72_0 := by kernel_rfl
@[go_sem] theorem ft72_0 : fd72_0.type = 3 := by kernel_rfl
@[go_sem] theorem fo72_0 : fd72_0.offset = 0 := by kernel_rfl
noncomputable def fd72_1 : Field := (fs72[1]?).getD default
@[go_sem] theorem fg72_1 : fs72[1]? = some fd72_1 := by kernel_rfl
@[go_sem] theorem ft72_1 : fd72_1.type = 9 := by kernel_rfl
@[go_sem] theorem fo72_1 : fd72_1.offset = 1 := by kernel_rfl
@[go_sem] theorem pl72 : fs72.toList.mapM (fun f => (Try.prog.info? f.type).map fun i => (f.offset, i.size)) = some [(0, 1), (1, 1)] := by kernel_rfl
noncomputable def ti72 : TypeInfo := (Try.prog.info? 72).getD default
@[go_sem] theorem inf_72 : Try.prog.info? 72 = some ti72 := by kernel_rfl
@[go_sem] theorem tis72 : ti72.size = 2 := by kernel_rfl
@[go_sem] theorem tib72 : ti72.bytes = 24 := by kernel_rfl
noncomputable def zv72 : Value := (ti72.zero).getD Go.undef
@[go_sem] theorem tiz72 : ti72.zero = some zv72 := by kernel_rfl
@[go_sem ↓] theorem zvs72 : zv72.cells.size = 2 := by kernel_rfl
@[go_sem ↓] theorem zvo72 : zv72.cells.toList.all (fun v => v.oneCell') = true := by kernel_rfl
@[go_sem ↓] theorem zvv72 : zv72.cells.toList.map vOf = [.int .i64 0, .str ⟨#[]⟩] := by kernel_rfl
noncomputable def fs73 : Array Field := match Try.prog.underlying 73 with | some (.struct fs) => fs | _ => #[]
@[go_sem] theorem und_73 : Try.prog.underlying 73 = some (.struct fs73) := by kernel_rfl
noncomputable def fd73_0 : Field := (fs73[0]?).getD default
@[go_sem] theorem fg73_0 : fs73[0]? = some fd73_0 := by kernel_rfl
@[go_sem] theorem ft73_0 : fd73_0.type = 3 := by kernel_rfl
@[go_sem] theorem fo73_0 : fd73_0.offset = 0 := by kernel_rfl
noncomputable def fd73_1 : Field := (fs73[1]?).getD default
@[go_sem] theorem fg73_1 : fs73[1]? = some fd73_1 := by kernel_rfl
@[go_sem] theorem ft73_1 : fd73_1.type = 9 := by kernel_rfl
@[go_sem] theorem fo73_1 : fd73_1.offset = 1 := by kernel_rfl
@[go_sem] theorem pl73 : fs73.toList.mapM (fun f => (Try.prog.info? f.type).map fun i => (f.offset, i.size)) = some [(0, 1), (1, 1)] := by kernel_rfl
noncomputable def ti73 : TypeInfo := (Try.prog.info? 73).getD default
@[go_sem] theorem inf_73 : Try.prog.info? 73 = some ti73 := by kernel_rfl
@[go_sem] theorem tis73 : ti73.size = 2 := by kernel_rfl
@[go_sem] theorem tib73 : ti73.bytes = 24 := by kernel_rfl
noncomputable def zv73 : Value := (ti73.zero).getD Go.undef
@[go_sem] theorem tiz73 : ti73.zero = some zv73 := by kernel_rfl
@[go_sem ↓] theorem zvs73 : zv73.cells.size = 2 := by kernel_rfl
@[go_sem ↓] theorem zvo73 : zv73.cells.toList.all (fun v => v.oneCell') = true := by kernel_rfl
@[go_sem ↓] theorem zvv73 : zv73.cells.toList.map vOf = [.int .i64 0, .str ⟨#[]⟩] := by kernel_rfl
noncomputable def fs76 : Array Field := match Try.prog.underlying 76 with | some (.struct fs) => fs | _ => #[]
@[go_sem] theorem und_76 : Try.prog.underlying 76 = some (.struct fs76) := by kernel_rfl
noncomputable def fd76_0 : Field := (fs76[0]?).getD default
@[go_sem] theorem fg76_0 : fs76[0]? = some fd76_0 := by kernel_rfl
@[go_sem] theorem ft76_0 : fd76_0.type = 48 := by kernel_rfl
@[go_sem] theorem fo76_0 : fd76_0.offset = 0 := by kernel_rfl
noncomputable def fd76_1 : Field := (fs76[1]?).getD default
@[go_sem] theorem fg76_1 : fs76[1]? = some fd76_1 := by kernel_rfl
@[go_sem] theorem ft76_1 : fd76_1.type = 3 := by kernel_rfl
@[go_sem] theorem fo76_1 : fd76_1.offset = 1 := by kernel_rfl
noncomputable def fd76_2 : Field := (fs76[2]?).getD default
@[go_sem] theorem fg76_2 : fs76[2]? = some fd76_2 := by kernel_rfl
@[go_sem] theorem ft76_2 : fd76_2.type = 3 := by kernel_rfl
@[go_sem] theorem fo76_2 : fd76_2.offset = 2 := by kernel_rfl
noncomputable def fd76_3 : Field := (fs76[3]?).getD default
@[go_sem] theorem fg76_3 : fs76[3]? = some fd76_3 := by kernel_rfl
@[go_sem] theorem ft76_3 : fd76_3.type = 41 := by kernel_rfl
@[go_sem] theorem fo76_3 : fd76_3.offset = 3 := by kernel_rfl
@[go_sem] theorem pl76 : fs76.toList.mapM (fun f => (Try.prog.info? f.type).map fun i => (f.offset, i.size)) = some [(0, 1), (1, 1), (2, 1), (3, 1)] := by kernel_rfl
noncomputable def ti76 : TypeInfo := (Try.prog.info? 76).getD default
@[go_sem] theorem inf_76 : Try.prog.info? 76 = some ti76 := by kernel_rfl
@[go_sem] theorem tis76 : ti76.size = 4 := by kernel_rfl
@[go_sem] theorem tib76 : ti76.bytes = 48 := by kernel_rfl
noncomputable def zv76 : Value := (ti76.zero).getD Go.undef
@[go_sem] theorem tiz76 : ti76.zero = some zv76 := by kernel_rfl
@[go_sem ↓] theorem zvs76 : zv76.cells.size = 4 := by kernel_rfl
@[go_sem ↓] theorem zvo76 : zv76.cells.toList.all (fun v => v.oneCell') = true := by kernel_rfl
@[go_sem ↓] theorem zvv76 : zv76.cells.toList.map vOf = [.sl [] true, .int .i64 0, .int .i64 0, .int .i8 0] := by kernel_rfl
noncomputable def fs77 : Array Field := match Try.prog.underlying 77 with | some (.struct fs) => fs | _ => #[]
@[go_sem] theorem und_77 : Try.prog.underlying 77 = some (.struct fs77) := by kernel_rfl
noncomputable def fd77_0 : Field := (fs77[0]?).getD default
@[go_sem] theorem fg77_0 : fs77[0]? = some fd77_0 := by kernel_rfl
@[go_sem] theorem ft77_0 : fd77_0.type = 48 := by kernel_rfl
@[go_sem] theorem fo77_0 : fd77_0.offset = 0 := by kernel_rfl
noncomputable def fd77_1 : Field := (fs77[1]?).getD default
@[go_sem] theorem fg77_1 : fs77[1]? = some fd77_1 := by kernel_rfl
@[go_sem] theorem ft77_1 : fd77_1.type = 3 := by kernel_rfl
@[go_sem] theorem fo77_1 : fd77_1.offset = 1 := by kernel_rfl
noncomputable def fd77_2 : Field := (fs77[2]?).getD default
@[go_sem] theorem fg77_2 : fs77[2]? = some fd77_2 := by kernel_rfl
@[go_sem] theorem ft77_2 : fd77_2.type = 3 := by kernel_rfl
@[go_sem] theorem fo77_2 : fd77_2.offset = 2 := by kernel_rfl
noncomputable def fd77_3 : Field := (fs77[3]?).getD default
@[go_sem] theorem fg77_3 : fs77[3]? = some fd77_3 := by kernel_rfl
@[go_sem] theorem ft77_3 : fd77_3.type = 41 := by kernel_rfl
@[go_sem] theorem fo77_3 : fd77_3.offset = 3 := by kernel_rfl
@[go_sem] theorem pl77 : fs77.toList.mapM (fun f => (Try.prog.info? f.type).map fun i => (f.offset, i.size)) = some [(0, 1), (1, 1), (2, 1), (3, 1)] := by kernel_rfl
noncomputable def ti77 : TypeInfo := (Try.prog.info? 77).getD default
@[go_sem] theorem inf_77 : Try.prog.info? 77 = some ti77 := by kernel_rfl
@[go_sem] theorem tis77 : ti77.size = 4 := by kernel_rfl
@[go_sem] theorem tib77 : ti77.bytes = 48 := by kernel_rfl
noncomputable def zv77 : Value := (ti77.zero).getD Go.undef
@[go_sem] theorem tiz77 : ti77.zero = some zv77 := by kernel_rfl
@[go_sem ↓] theorem zvs77 : zv77.cells.size = 4 := by kernel_rfl
@[go_sem ↓] theorem zvo77 : zv77.cells.toList.all (fun v => v.oneCell') = true := by kernel_rfl
@[go_sem ↓] theorem zvv77 : zv77.cells.toList.map vOf = [.sl [] true, .int .i64 0, .int .i64 0, .int .i8 0] := by kernel_rfl
@[go_sem] theorem und_91 : Try.prog.underlying 91 = some (.pointer 93) := by kernel_rfl
noncomputable def ti91 : TypeInfo := (Try.prog.info? 91).getD default
@[go_sem] theorem inf_91 : Try.prog.info? 91 = some ti91 := by kernel_rfl
@[go_sem] theorem tis91 : ti91.size = 1 := by kernel_rfl
@[go_sem] theorem tib91 : ti91.bytes = 8 := by kernel_rfl
noncomputable def zv91 : Value := (ti91.zero).getD Go.undef
@[go_sem] theorem tiz91 : ti91.zero = some zv91 := by kernel_rfl
@[go_sem ↓] theorem zvs91 : zv91.cells.size = 1 := by kernel_rfl
@[go_sem ↓] theorem zvo91 : zv91.cells.toList.all (fun v => v.oneCell') = true := by kernel_rfl
@[go_sem ↓] theorem zvv91 : zv91.cells.toList.map vOf = [.nilp] := by kernel_rfl
noncomputable def fs92 : Array Field := match Try.prog.underlying 92 with | some (.struct fs) => fs | _ => #[]
@[go_sem] theorem und_92 : Try.prog.underlying 92 = some (.struct fs92) := by kernel_rfl
noncomputable def fd92_0 : Field := (fs92[0]?).getD default
@[go_sem] theorem fg92_0 : fs92[0]? = some fd92_0 := by kernel_rfl
@[go_sem] theorem ft92_0 : fd92_0.type = 77 := by kernel_rfl
@[go_sem] theorem fo92_0 : fd92_0.offset = 0 := by kernel_rfl
noncomputable def fd92_1 : Field := (fs92[1]?).getD default
@[go_sem] theorem fg92_1 : fs92[1]? = some fd92_1 := by kernel_rfl
@[go_sem] theorem ft92_1 : fd92_1.type = 3 := by kernel_rfl
@[go_sem] theorem fo92_1 : fd92_1.offset = 4 := by kernel_rfl
noncomputable def fd92_2 : Field := (fs92[2]?).getD default
@[go_sem] theorem fg92_2 : fs92[2]? = some fd92_2 := by kernel_rfl
@[go_sem] theorem ft92_2 : fd92_2.type = 9 := by kernel_rfl
@[go_sem] theorem fo92_2 : fd92_2.offset = 5 := by kernel_rfl
@[go_sem] theorem pl92 : fs92.toList.mapM (fun f => (Try.prog.info? f.type).map fun i => (f.offset, i.size)) = some [(0, 4), (4, 1), (5, 1)] := by kernel_rfl
noncomputable def ti92 : TypeInfo := (Try.prog.info? 92).getD default
@[go_sem] theorem inf_92 : Try.prog.info? 92 = some ti92 := by kernel_rfl
@[go_sem] theorem tis92 : ti92.size = 6 := by kernel_rfl
@[go_sem] theorem tib92 : ti92.bytes = 72 := by kernel_rfl
noncomputable def zv92 : Value := (ti92.zero).getD Go.undef
@[go_sem] theorem tiz92 : ti92.zero = some zv92 := by kernel_rfl
@[go_sem ↓] theorem zvs92 : zv92.cells.size = 6 := by kernel_rfl
@[go_sem ↓] theorem zvo92 : zv92.cells.toList.all (fun v => v.oneCell') = true := by kernel_rfl
@[go_sem ↓] theorem zvv92 : zv92.cells.toList.map vOf = [.sl [] true, .int .i64 0, .int .i64 0, .int .i8 0, .int .i64 0, .str ⟨#[]⟩] := by kernel_rfl
noncomputable def fs93 : Array Field := match Try.prog.underlying 93 with | some (.struct fs) => fs | _ => #[]
@[go_sem] theorem und_93 : Try.prog.underlying 93 = some (.struct fs93) := by kernel_rfl
noncomputable def fd93_0 : Field := (fs93[0]?).getD default
@[go_sem] theorem fg93_0 : fs93[0]? = some fd93_0 := by kernel_rfl
@[go_sem] theorem ft93_0 : fd93_0.type = 77 := by kernel_rfl
@[go_sem] theorem fo93_0 : fd93_0.offset = 0 := by kernel_rfl
noncomputable def fd93_1 : Field := (fs93[1]?).getD default
@[go_sem] theorem fg93_1 : fs93[1]? = some fd93_1 := by kernel_rfl
@[go_sem] theorem ft93_1 : fd93_1.type = 3 := by kernel_rfl
@[go_sem] theorem fo93_1 : fd93_1.offset = 4 := by kernel_rfl
noncomputable def fd93_2 : Field := (fs93[2]?).getD default
@[go_sem] theorem fg93_2 : fs93[2]? = some fd93_2 := by kernel_rfl
@[go_sem] theorem ft93_2 : fd93_2.type = 9 := by kernel_rfl
@[go_sem] theorem fo93_2 : fd93_2.offset = 5 := by kernel_rfl
@[go_sem] theorem pl93 : fs93.toList.mapM (fun f => (Try.prog.info? f.type).map fun i => (f.offset, i.size)) = some [(0, 4), (4, 1), (5, 1)] := by kernel_rfl
noncomputable def ti93 : TypeInfo := (Try.prog.info? 93).getD default
@[go_sem] theorem inf_93 : Try.prog.info? 93 = some ti93 := by kernel_rfl
@[go_sem] theorem tis93 : ti93.size = 6 := by kernel_rfl
@[go_sem] theorem tib93 : ti93.bytes = 72 := by kernel_rfl
noncomputable def zv93 : Value := (ti93.zero).getD Go.undef
@[go_sem] theorem tiz93 : ti93.zero = some zv93 := by kernel_rfl
@[go_sem ↓] theorem zvs93 : zv93.cells.size = 6 := by kernel_rfl
@[go_sem ↓] theorem zvo93 : zv93.cells.toList.all (fun v => v.oneCell') = true := by kernel_rfl
@[go_sem ↓] theorem zvv93 : zv93.cells.toList.map vOf = [.sl [] true, .int .i64 0, .int .i64 0, .int .i8 0, .int .i64 0, .str ⟨#[]⟩] := by kernel_rfl
@[go_sem] theorem und_96 : Try.prog.underlying 96 = some (.int .u64) := by kernel_rfl
noncomputable def ti96 : TypeInfo := (Try.prog.info? 96).getD default
@[go_sem] theorem inf_96 : Try.prog.info? 96 = some ti96 := by kernel_rfl
@[go_sem] theorem tis96 : ti96.size = 1 := by kernel_rfl
@[go_sem] theorem tib96 : ti96.bytes = 8 := by kernel_rfl
noncomputable def zv96 : Value := (ti96.zero).getD Go.undef
@[go_sem] theorem tiz96 : ti96.zero = some zv96 := by kernel_rfl
@[go_sem ↓] theorem zvs96 : zv96.cells.size = 1 := by kernel_rfl
@[go_sem ↓] theorem zvo96 : zv96.cells.toList.all (fun v => v.oneCell') = true := by kernel_rfl
@[go_sem ↓] theorem zvv96 : zv96.cells.toList.map vOf = [.int .u64 0] := by kernel_rfl
@[go_sem] theorem und_101 : Try.prog.underlying 101 = some (.pointer 104) := by kernel_rfl
noncomputable def ti101 : TypeInfo := (Try.prog.info? 101).getD default
@[go_sem] theorem inf_101 : Try.prog.info? 101 = some ti101 := by kernel_rfl
@[go_sem] theorem tis101 : ti101.size = 1 := by kernel_rfl
@[go_sem] theorem tib101 : ti101.bytes = 8 := by kernel_rfl
noncomputable def zv101 : Value := (ti101.zero).getD Go.undef
@[go_sem] theorem tiz101 : ti101.zero = some zv101 := by kernel_rfl
@[go_sem ↓] theorem zvs101 : zv101.cells.size = 1 := by kernel_rfl
@[go_sem ↓] theorem zvo101 : zv101.cells.toList.all (fun v => v.oneCell') = true := by kernel_rfl
@[go_sem ↓] theorem zvv101 : zv101.cells.toList.map vOf = [.nilp] := by kernel_rfl
noncomputable def fs103 : Array Field := match Try.prog.underlying 103 with | some (.struct fs) => fs | _ => #[]
@[go_sem] theorem und_103 : Try.prog.underlying 103 = some (.struct fs103) := by kernel_rfl
noncomputable def fd103_0 : Field := (fs103[0]?).getD default
@[go_sem] theorem fg103_0 : fs103[0]? = some fd103_0 := by kernel_rfl
@[go_sem] theorem ft103_0 : fd103_0.type = 36 := by kernel_rfl
@[go_sem] theorem fo103_0 : fd103_0.offset = 0 := by kernel_rfl
@[go_sem] theorem pl103 : fs103.toList.mapM (fun f => (Try.prog.info? f.type).map fun i => (f.offset, i.size)) = some [(0, 5)] := by kernel_rfl
noncomputable def ti103 : TypeInfo := (Try.prog.info? 103).getD default
@[go_sem] theorem inf_103 : Try.prog.info? 103 = some ti103 := by kernel_rfl
@[go_sem] theorem tis103 : ti103.size = 5 := by kernel_rfl
@[go_sem] theorem tib103 : ti103.bytes = 104 := by kernel_rfl
noncomputable def zv103 : Value := (ti103.zero).getD Go.undef
@[go_sem] theorem tiz103 : ti103.zero = some zv103 := by kernel_rfl
@[go_sem ↓] theorem zvs103 : zv103.cells.size = 5 := by kernel_rfl
@[go_sem ↓] theorem zvo103 : zv103.cells.toList.all (fun v => v.oneCell') = true := by kernel_rfl
@[go_sem ↓] theorem zvv103 : zv103.cells.toList.map vOf = [.sl [] true, .sl [] true, .sl [] true, .int .i64 0, .sl [] true] := by kernel_rfl
noncomputable def fs104 : Array Field := match Try.prog.underlying 104 with | some (.struct fs) => fs | _ => #[]
@[go_sem] theorem und_104 : Try.prog.underlying 104 = some (.struct fs104) := by kernel_rfl
noncomputable def fd104_0 : Field := (fs104[0]?).getD default
@[go_sem] theorem fg104_0 : fs104[0]? = some fd104_0 := by kernel_rfl
@[go_sem] theorem ft104_0 : fd104_0.type = 36 := by kernel_rfl
@[go_sem] theorem fo104_0 : fd104_0.offset = 0 := by kernel_rfl
@[go_sem] theorem pl104 : fs104.toList.mapM (fun f => (Try.prog.info? f.type).map fun i => (f.offset, i.size)) = some [(0, 5)] := by kernel_rfl
noncomputable def ti104 : TypeInfo := (Try.prog.info? 104).getD default
@[go_sem] theorem inf_104 : Try.prog.info? 104 = some ti104 := by kernel_rfl
@[go_sem] theorem tis104 : ti104.size = 5 := by kernel_rfl
@[go_sem] theorem tib104 : ti104.bytes = 104 := by kernel_rfl
noncomputable def zv104 : Value := (ti104.zero).getD Go.undef
@[go_sem] theorem tiz104 : ti104.zero = some zv104 := by kernel_rfl
@[go_sem ↓] theorem zvs104 : zv104.cells.size = 5 := by kernel_rfl
@[go_sem ↓] theorem zvo104 : zv104.cells.toList.all (fun v => v.oneCell') = true := by kernel_rfl
@[go_sem ↓] theorem zvv104 : zv104.cells.toList.map vOf = [.sl [] true, .sl [] true, .sl [] true, .int .i64 0, .sl [] true] := by kernel_rfl
@[go_sem] theorem und_136 : Try.prog.underlying 136 = some (.int .i64) := by kernel_rfl
noncomputable def ti136 : TypeInfo := (Try.prog.info? 136).getD default
@[go_sem] theorem inf_136 : Try.prog.info? 136 = some ti136 := by kernel_rfl
@[go_sem] theorem tis136 : ti136.size = 1 := by kernel_rfl
@[go_sem] theorem tib136 : ti136.bytes = 8 := by kernel_rfl
noncomputable def zv136 : Value := (ti136.zero).getD Go.undef
@[go_sem] theorem tiz136 : ti136.zero = some zv136 := by kernel_rfl
@[go_sem ↓] theorem zvs136 : zv136.cells.size = 1 := by kernel_rfl
@[go_sem ↓] theorem zvo136 : zv136.cells.toList.all (fun v => v.oneCell') = true := by kernel_rfl
@[go_sem ↓] theorem zvv136 : zv136.cells.toList.map vOf = [.int .i64 0] := by kernel_rfl
@[go_sem] theorem und_147 : Try.prog.underlying 147 = some (.pointer 151) := by kernel_rfl
noncomputable def ti147 : TypeInfo := (Try.prog.info? 147).getD default
@[go_sem] theorem inf_147 : Try.prog.info? 147 = some ti147 := by kernel_rfl
@[go_sem] theorem tis147 : ti147.size = 1 := by kernel_rfl
@[go_sem] theorem tib147 : ti147.bytes = 8 := by kernel_rfl
noncomputable def zv147 : Value := (ti147.zero).getD Go.undef
@[go_sem] theorem tiz147 : ti147.zero = some zv147 := by kernel_rfl
@[go_sem ↓] theorem zvs147 : zv147.cells.size = 1 := by kernel_rfl
@[go_sem ↓] theorem zvo147 : zv147.cells.toList.all (fun v => v.oneCell') = true := by kernel_rfl
@[go_sem ↓] theorem zvv147 : zv147.cells.toList.map vOf = [.nilp] := by kernel_rfl
noncomputable def fs148 : Array Field := match Try.prog.underlying 148 with | some (.struct fs) => fs | _ => #[]
@[go_sem] theorem und_148 : Try.prog.underlying 148 = some (.struct fs148) := by kernel_rfl
noncomputable def fd148_0 : Field := (fs148[0]?).getD default
@[go_sem] theorem fg148_0 : fs148[0]? = some fd148_0 := by kernel_rfl
@[go_sem] theorem ft148_0 : fd148_0.type = 24 := by kernel_rfl
@[go_sem] theorem fo148_0 : fd148_0.offset = 0 := by kernel_rfl
@[go_sem] theorem pl148 : fs148.toList.mapM (fun f => (Try.prog.info? f.type).map fun i => (f.offset, i.size)) = some [(0, 1)] := by kernel_rfl
noncomputable def ti148 : TypeInfo := (Try.prog.info? 148).getD default
@[go_sem] theorem inf_148 : Try.prog.info? 148 = some ti148 := by kernel_rfl
@[go_sem] theorem tis148 : ti148.size = 1 := by kernel_rfl
@[go_sem] theorem tib148 : ti148.bytes = 24 := by kernel_rfl
noncomputable def zv148 : Value := (ti148.zero).getD Go.undef
@[go_sem] theorem tiz148 : ti148.zero = some zv148 := by kernel_rfl
@[go_sem ↓] theorem zvs148 : zv148.cells.size = 1 := by kernel_rfl
@[go_sem ↓] theorem zvo148 : zv148.cells.toList.all (fun v => v.oneCell') = true := by kernel_rfl
@[go_sem ↓] theorem zvv148 : zv148.cells.toList.map vOf = [.sl [] true] := by kernel_rfl
noncomputable def fs149 : Array Field := match Try.prog.underlying 149 with | some (.struct fs) => fs | _ => #[]
@[go_sem] theorem und_149 : Try.prog.underlying 149 = some (.struct fs149) := by kernel_rfl
noncomputable def fd149_0 : Field := (fs149[0]?).getD default
@[go_sem] theorem fg149_0 : fs149[0]? = some fd149_0 := by kernel_rfl
@[go_sem] theorem ft149_0 : fd149_0.type = 24 := by kernel_rfl
@[go_sem] theorem fo149_0 : fd149_0.offset = 0 := by kernel_rfl
@[go_sem] theorem pl149 : fs149.toList.mapM (fun f => (Try.prog.info? f.type).map fun i => (f.offset, i.size)) = some [(0, 1)] := by kernel_rfl
noncomputable def ti149 : TypeInfo := (Try.prog.info? 149).getD default
@[go_sem] theorem inf_149 : Try.prog.info? 149 = some ti149 := by kernel_rfl
@[go_sem] theorem tis149 : ti149.size = 1 := by kernel_rfl
@[go_sem] theorem tib149 : ti149.bytes = 24 := by kernel_rfl
noncomputable def zv149 : Value := (ti149.zero).getD Go.undef
@[go_sem] theorem tiz149 : ti149.zero = some zv149 := by kernel_rfl
@[go_sem ↓] theorem zvs149 : zv149.cells.size = 1 := by kernel_rfl
@[go_sem ↓] theorem zvo149 : zv149.cells.toList.all (fun v => v.oneCell') = true := by kernel_rfl
@[go_sem ↓] theorem zvv149 : zv149.cells.toList.map vOf = [.sl [] true] := by kernel_rfl
noncomputable def fs150 : Array Field := match Try.prog.underlying 150 with | some (.struct fs) => fs | _ => #[]
@[go_sem] theorem und_150 : Try.prog.underlying 150 = some (.struct fs150) := by kernel_rfl
noncomputable def fd150_0 : Field := (fs150[0]?).getD default
@[go_sem] theorem fg150_0 : fs150[0]? = some fd150_0 := by kernel_rfl
@[go_sem] theorem ft150_0 : fd150_0.type = 149 := by kernel_rfl
@[go_sem] theorem fo150_0 : fd150_0.offset = 0 := by kernel_rfl
noncomputable def fd150_1 : Field := (fs150[1]?).getD default
@[go_sem] theorem fg150_1 : fs150[1]? = some fd150_1 := by kernel_rfl
@[go_sem] theorem ft150_1 : fd150_1.type = 23 := by kernel_rfl
@[go_sem] theorem fo150_1 : fd150_1.offset = 1 := by kernel_rfl
@[go_sem] theorem pl150 : fs150.toList.mapM (fun f => (Try.prog.info? f.type).map fun i => (f.offset, i.size)) = some [(0, 1), (1, 8)] := by kernel_rfl
noncomputable def ti150 : TypeInfo := (Try.prog.info? 150).getD default
@[go_sem] theorem inf_150 : Try.prog.info? 150 = some ti150 := by kernel_rfl
@[go_sem] theorem tis150 : ti150.size = 9 := by kernel_rfl
@[go_sem] theorem tib150 : ti150.bytes = 88 := by kernel_rfl
noncomputable def zv150 : Value := (ti150.zero).getD Go.undef
@[go_sem] theorem tiz150 : ti150.zero = some zv150 := by kernel_rfl
@[go_sem ↓] theorem zvs150 : zv150.cells.size = 9 := by kernel_rfl
@[go_sem ↓] theorem zvo150 : zv150.cells.toList.all (fun v => v.oneCell') = true := by kernel_rfl
@[go_sem ↓] theorem zvv150 : zv150.cells.toList.map vOf = [.sl [] true, .int .i64 0, .int .i64 0, .int .i64 0, .int .i64 0, .int .i64 0, .int .i64 0, .int .i64 0, .int .i64 0] := by kernel_rfl
noncomputable def fs151 : Array Field := match Try.prog.underlying 151 with | some (.struct fs) => fs | _ => #[]
@[go_sem] theorem und_151 : Try.prog.underlying 151 = some (.struct fs151) := by kernel_rfl
noncomputable def fd151_0 : Field := (fs151[0]?).getD default
@[go_sem] theorem fg151_0 : fs151[0]? = some fd151_0 := by kernel_rfl
@[go_sem] theorem ft151_0 : fd151_0.type = 149 := by kernel_rfl
@[go_sem] theorem fo151_0 : fd151_0.offset = 0 := by kernel_rfl
noncomputable def fd151_1 : Field := (fs151[1]?).getD default
@[go_sem] theorem fg151_1 : fs151[1]? = some fd151_1 := by kernel_rfl
@[go_sem] theorem ft151_1 : fd151_1.type = 23 := by kernel_rfl
@[go_sem] theorem fo151_1 : fd151_1.offset = 1 := by kernel_rfl
@[go_sem] theorem pl151 : fs151.toList.mapM (fun f => (Try.prog.info? f.type).map fun i => (f.offset, i.size)) = some [(0, 1), (1, 8)] := by kernel_rfl
noncomputable def ti151 : TypeInfo := (Try.prog.info? 151).getD default
@[go_sem] theorem inf_151 : Try.prog.info? 151 = some ti151 := by kernel_rfl
@[go_sem] theorem tis151 : ti151.size = 9 := by kernel_rfl
@[go_sem] theorem tib151 : ti151.bytes = 88 := by kernel_rfl
noncomputable def zv151 : Value := (ti151.zero).getD Go.undef
@[go_sem] theorem tiz151 : ti151.zero = some zv151 := by kernel_rfl
@[go_sem ↓] theorem zvs151 : zv151.cells.size = 9 := by kernel_rfl
@[go_sem ↓] theorem zvo151 : zv151.cells.toList.all (fun v => v.oneCell') = true := by kernel_rfl
@[go_sem ↓] theorem zvv151 : zv151.cells.toList.map vOf = [.sl [] true, .int .i64 0, .int .i64 0, .int .i64 0, .int .i64 0, .int .i64 0, .int .i64 0, .int .i64 0, .int .i64 0] := by kernel_rfl
@[go_sem] theorem und_152 : Try.prog.underlying 152 = some (.pointer 156) := by kernel_rfl
noncomputable def ti152 : TypeInfo := (Try.prog.info? 152).getD default
@[go_sem] theorem inf_152 : Try.prog.info? 152 = some ti152 := by kernel_rfl
@[go_sem] theorem tis152 : ti152.size = 1 := by kernel_rfl
@[go_sem] theorem tib152 : ti152.bytes = 8 := by kernel_rfl
noncomputable def zv152 : Value := (ti152.zero).getD Go.undef
@[go_sem] theorem tiz152 : ti152.zero = some zv152 := by kernel_rfl
@[go_sem ↓] theorem zvs152 : zv152.cells.size = 1 := by kernel_rfl
@[go_sem ↓] theorem zvo152 : zv152.cells.toList.all (fun v => v.oneCell') = true := by kernel_rfl
@[go_sem ↓] theorem zvv152 : zv152.cells.toList.map vOf = [.nilp] := by kernel_rfl
noncomputable def fs153 : Array Field := match Try.prog.underlying 153 with | some (.struct fs) => fs | _ => #[]
@[go_sem] theorem und_153 : Try.prog.underlying 153 = some (.struct fs153) := by kernel_rfl
noncomputable def fd153_0 : Field := (fs153[0]?).getD default
@[go_sem] theorem fg153_0 : fs153[0]? = some fd153_0 := by kernel_rfl
@[go_sem] theorem ft153_0 : fd153_0.type = 58 := by kernel_rfl
@[go_sem] theorem fo153_0 : fd153_0.offset = 0 := by kernel_rfl
noncomputable def fd153_1 : Field := (fs153[1]?).getD default
@[go_sem] theorem fg153_1 : fs153[1]? = some fd153_1 := by kernel_rfl
@[go_sem] theorem ft153_1 : fd153_1.type = 30 := by kernel_rfl
@[go_sem] theorem fo153_1 : fd153_1.offset = 1 := by kernel_rfl
@[go_sem] theorem pl153 : fs153.toList.mapM (fun f => (Try.prog.info? f.type).map fun i => (f.offset, i.size)) = some [(0, 1), (1, 1)] := by kernel_rfl
noncomputable def ti153 : TypeInfo := (Try.prog.info? 153).getD default
@[go_sem] theorem inf_153 : Try.prog.info? 153 = some ti153 := by kernel_rfl
@[go_sem] theorem tis153 : ti153.size = 2 := by kernel_rfl
@[go_sem] theorem tib153 : ti153.bytes = 32 := by kernel_rfl
noncomputable def zv153 : Value := (ti153.zero).getD Go.undef
@[go_sem] theorem tiz153 : ti153.zero = some zv153 := by kernel_rfl
@[go_sem ↓] theorem zvs153 : zv153.cells.size = 2 := by kernel_rfl
@[go_sem ↓] theorem zvo153 : zv153.cells.toList.all (fun v => v.oneCell') = true := by kernel_rfl
@[go_sem ↓] theorem zvv153 : zv153.cells.toList.map vOf = [.sl [] true, .int .i64 0] := by kernel_rfl
noncomputable def fs154 : Array Field := match Try.prog.underlying 154 with | some (.struct fs) => fs | _ => #[]
@[go_sem] theorem und_154 : Try.prog.underlying 154 = some (.struct fs154) := by kernel_rfl
noncomputable def fd154_0 : Field := (fs154[0]?).getD default
@[go_sem] theorem fg154_0 : fs154[0]? = some fd154_0 := by kernel_rfl
@[go_sem] theorem ft154_0 : fd154_0.type = 58 := by kernel_rfl
@[go_sem] theorem fo154_0 : fd154_0.offset = 0 := by kernel_rfl
noncomputable def fd154_1 : Field := (fs154[1]?).getD default
@[go_sem] theorem fg154_1 : fs154[1]? = some fd154_1 := by kernel_rfl
@[go_sem] theorem ft154_1 : fd154_1.type = 30 := by kernel_rfl
@[go_sem] theorem fo154_1 : fd154_1.offset = 1 := by kernel_rfl
@[go_sem] theorem pl154 : fs154.toList.mapM (fun f => (Try.prog.info? f.type).map fun i => (f.offset, i.size)) = some [(0, 1), (1, 1)] := by kernel_rfl
noncomputable def ti154 : TypeInfo := (Try.prog.info? 154).getD default
@[go_sem] theorem inf_154 : Try.prog.info? 154 = some ti154 := by kernel_rfl
@[go_sem] theorem tis154 : ti154.size = 2 := by kernel_rfl
@[go_sem] theorem tib154 : ti154.bytes = 32 := by kernel_rfl
noncomputable def zv154 : Value := (ti154.zero).getD Go.undef
@[go_sem] theorem tiz154 : ti154.zero = some zv154 := by kernel_rfl
@[go_sem ↓] theorem zvs154 : zv154.cells.size = 2 := by kernel_rfl
@[go_sem ↓] theorem zvo154 : zv154.cells.toList.all (fun v => v.oneCell') = true := by kernel_rfl
@[go_sem ↓] theorem zvv154 : zv154.cells.toList.map vOf = [.sl [] true, .int .i64 0] := by kernel_rfl
noncomputable def fs155 : Array Field := match Try.prog.underlying 155 with | some (.struct fs) => fs | _ => #[]
@[go_sem] theorem und_155 : Try.prog.underlying 155 = some (.struct fs155) := by kernel_rfl
noncomputable def fd155_0 : Field := (fs155[0]?).getD default
@[go_sem] theorem fg155_0 : fs155[0]? = some fd155_0 := by kernel_rfl
@[go_sem] theorem ft155_0 : fd155_0.type = 154 := by kernel_rfl
@[go_sem] theorem fo155_0 : fd155_0.offset = 0 := by kernel_rfl
noncomputable def fd155_1 : Field := (fs155[1]?).getD default
@[go_sem] theorem fg155_1 : fs155[1]? = some fd155_1 := by kernel_rfl
@[go_sem] theorem ft155_1 : fd155_1.type = 41 := by kernel_rfl
@[go_sem] theorem fo155_1 : fd155_1.offset = 2 := by kernel_rfl
@[go_sem] theorem pl155 : fs155.toList.mapM (fun f => (Try.prog.info? f.type).map fun i => (f.offset, i.size)) = some [(0, 2), (2, 1)] := by kernel_rfl
noncomputable def ti155 : TypeInfo := (Try.prog.info? 155).getD default
@[go_sem] theorem inf_155 : Try.prog.info? 155 = some ti155 := by kernel_rfl
@[go_sem] theorem tis155 : ti155.size = 3 := by kernel_rfl
@[go_sem] theorem tib155 : ti155.bytes = 40 := by kernel_rfl
noncomputable def zv155 : Value := (ti155.zero).getD Go.undef
@[go_sem] theorem tiz155 : ti155.zero = some zv155 := by kernel_rfl
@[go_sem ↓] theorem zvs155 : zv155.cells.size = 3 := by kernel_rfl
@[go_sem ↓] theorem zvo155 : zv155.cells.toList.all (fun v => v.oneCell') = true := by kernel_rfl
@[go_sem ↓] theorem zvv155 : zv155.cells.toList.map vOf = [.sl [] true, .int .i64 0, .int .i8 0] := by kernel_rfl
noncomputable def fs156 : Array Field := match Try.prog.underlying 156 with | some (.struct fs) => fs | _ => #[]
@[go_sem] theorem und_156 : Try.prog.underlying 156 = some (.struct fs156) := by kernel_rfl
noncomputable def fd156_0 : Field := (fs156[0]?).getD default
@[go_sem] theorem fg156_0 : fs156[0]? = some fd156_0 := by kernel_rfl
@[go_sem] theorem ft156_0 : fd156_0.type = 154 := by kernel_rfl
@[go_sem] theorem fo156_0 : fd156_0.offset = 0 := by kernel_rfl
noncomputable def fd156_1 : Field := (fs156[1]?).getD default
@[go_sem] theorem fg156_1 : fs156[1]? = some fd156_1 := by kernel_rfl
@[go_sem] theorem ft156_1 : fd156_1.type = 41 := by kernel_rfl
@[go_sem] theorem fo156_1 : fd156_1.offset = 2 := by kernel_rfl
@[go_sem] theorem pl156 : fs156.toList.mapM (fun f => (Try.prog.info? f.type).map fun i => (f.offset, i.size)) = some [(0, 2), (2, 1)] := by kernel_rfl
noncomputable def ti156 : TypeInfo := (Try.prog.info? 156).getD default
@[go_sem] theorem inf_156 : Try.prog.info? 156 = some ti156 := by kernel_rfl
@[go_sem] theorem tis156 : ti156.size = 3 := by kernel_rfl
@[go_sem] theorem tib156 : ti156.bytes = 40 := by kernel_rfl
noncomputable def zv156 : Value := (ti156.zero).getD Go.undef
@[go_sem] theorem tiz156 : ti156.zero = some zv156 := by kernel_rfl
@[go_sem ↓] theorem zvs156 : zv156.cells.size = 3 := by kernel_rfl
@[go_sem ↓] theorem zvo156 : zv156.cells.toList.all (fun v => v.oneCell') = true := by kernel_rfl
@[go_sem ↓] theorem zvv156 : zv156.cells.toList.map vOf = [.sl [] true, .int .i64 0, .int .i8 0] := by kernel_rfl
noncomputable def fs159 : Array Field := match Try.prog.underlying 159 with | some (.struct fs) => fs | _ => #[]
@[go_sem] theorem und_159 : Try.prog.underlying 159 = some (.struct fs159) := by kernel_rfl
noncomputable def fd159_0 : Field := (fs159[0]?).getD default
@[go_sem] theorem fg159_0 : fs159[0]? = some fd159_0 := by kernel_rfl
@[go_sem] theorem ft159_0 : fd159_0.type = 3 := by kernel_rfl
@[go_sem] theorem fo159_0 : fd159_0.offset = 0 := by kernel_rfl
noncomputable def fd159_1 : Field := (fs159[1]?).getD default
@[go_sem] theorem fg159_1 : fs159[1]? = some fd159_1 := by kernel_rfl
@[go_sem] theorem ft159_1 : fd159_1.type = 3 := by kernel_rfl
@[go_sem] theorem fo159_1 : fd159_1.offset = 1 := by kernel_rfl
@[go_sem] theorem pl159 : fs159.toList.mapM (fun f => (Try.prog.info? f.type).map fun i => (f.offset, i.size)) = some [(0, 1), (1, 1)] := by kernel_rfl
noncomputable def ti159 : TypeInfo := (Try.prog.info? 159).getD default
@[go_sem] theorem inf_159 : Try.prog.info? 159 = some ti159 := by kernel_rfl
@[go_sem] theorem tis159 : ti159.size = 2 := by kernel_rfl
@[go_sem] theorem tib159 : ti159.bytes = 16 := by kernel_rfl
noncomputable def zv159 : Value := (ti159.zero).getD Go.undef
@[go_sem] theorem tiz159 : ti159.zero = some zv159 := by kernel_rfl
@[go_sem ↓] theorem zvs159 : zv159.cells.size = 2 := by kernel_rfl
@[go_sem ↓] theorem zvo159 : zv159.cells.toList.all (fun v => v.oneCell') = true := by kernel_rfl
@[go_sem ↓] theorem zvv159 : zv159.cells.toList.map vOf = [.int .i64 0, .int .i64 0] := by kernel_rfl
noncomputable def fs160 : Array Field := match Try.prog.underlying 160 with | some (.struct fs) => fs | _ => #[]
@[go_sem] theorem und_160 : Try.prog.underlying 160 = some (.struct fs160) := by kernel_rfl
noncomputable def fd160_0 : Field := (fs160[0]?).getD default
@[go_sem] theorem fg160_0 : fs160[0]? = some fd160_0 := by kernel_rfl
@[go_sem] theorem ft160_0 : fd160_0.type = 3 := by kernel_rfl
@[go_sem] theorem fo160_0 : fd160_0.offset = 0 := by kernel_rfl
noncomputable def fd160_1 : Field := (fs160[1]?).getD default
@[go_sem] theorem fg160_1 : fs160[1]? = some fd160_1 := by kernel_rfl
@[go_sem] theorem ft160_1 : fd160_1.type = 3 := by kernel_rfl
@[go_sem] theorem fo160_1 : fd160_1.offset = 1 := by kernel_rfl
@[go_sem] theorem pl160 : fs160.toList.mapM (fun f => (Try.prog.info? f.type).map fun i => (f.offset, i.size)) = some [(0, 1), (1, 1)] := by kernel_rfl
noncomputable def ti160 : TypeInfo := (Try.prog.info? 160).getD default
@[go_sem] theorem inf_160 : Try.prog.info? 160 = some ti160 := by kernel_rfl
@[go_sem] theorem tis160 : ti160.size = 2 := by kernel_rfl
@[go_sem] theorem tib160 : ti160.bytes = 16 := by kernel_rfl
noncomputable def zv160 : Value := (ti160.zero).getD Go.undef
@[go_sem] theorem tiz160 : ti160.zero = some zv160 := by kernel_rfl
@[go_sem ↓] theorem zvs160 : zv160.cells.size = 2 := by kernel_rfl
@[go_sem ↓] theorem zvo160 : zv160.cells.toList.all (fun v => v.oneCell') = true := by kernel_rfl
@[go_sem ↓] theorem zvv160 : zv160.cells.toList.map vOf = [.int .i64 0, .int .i64 0] := by kernel_rfl
noncomputable def fs161 : Array Field := match Try.prog.underlying 161 with | some (.struct fs) => fs | _ => #[]
@[go_sem] theorem und_161 : Try.prog.underlying 161 = some (.struct fs161) := by kernel_rfl
noncomputable def fd161_0 : Field := (fs161[0]?).getD default
@[go_sem] theorem fg161_0 : fs161[0]? = some fd161_0 := by kernel_rfl
@[go_sem] theorem ft161_0 : fd161_0.type = 160 := by kernel_rfl
@[go_sem] theorem fo161_0 : fd161_0.offset = 0 := by kernel_rfl
noncomputable def fd161_1 : Field := (fs161[1]?).getD default
@[go_sem] theorem fg161_1 : fs161[1]? = some fd161_1 := by kernel_rfl
@[go_sem] theorem ft161_1 : fd161_1.type = 41 := by kernel_rfl
@[go_sem] theorem fo161_1 : fd161_1.offset = 2 := by kernel_rfl
noncomputable def fd161_2 : Field := (fs161[2]?).getD default
@[go_sem] theorem fg161_2 : fs161[2]? = some fd161_2 := by kernel_rfl
@[go_sem] theorem ft161_2 : fd161_2.type = 3 := by kernel_rfl
@[go_sem] theorem fo161_2 : fd161_2.offset = 3 := by kernel_rfl
@[go_sem] theorem pl161 : fs161.toList.mapM (fun f => (Try.prog.info? f.type).map fun i => (f.offset, i.size)) = some [(0, 2), (2, 1), (3, 1)] := by kernel_rfl
noncomputable def ti161 : TypeInfo := (Try.prog.info? 161).getD default
@[go_sem] theorem inf_161 : Try.prog.info? 161 = some ti161 := by kernel_rfl
@[go_sem] theorem tis161 : ti161.size = 4 := by kernel_rfl
@[go_sem] theorem tib161 : ti161.bytes = 32 := by kernel_rfl
noncomputable def zv161 : Value := (ti161.zero).getD Go.undef
@[go_sem] theorem tiz161 : ti161.zero = some zv161 := by kernel_rfl
@[go_sem ↓] theorem zvs161 : zv161.cells.size = 4 := by kernel_rfl
@[go_sem ↓] theorem zvo161 : zv161.cells.toList.all (fun v => v.oneCell') = true := by kernel_rfl
@[go_sem ↓] theorem zvv161 : zv161.cells.toList.map vOf = [.int .i64 0, .int .i64 0, .int .i8 0, .int .i64 0] := by kernel_rfl
noncomputable def fs162 : Array Field := match Try.prog.underlying 162 with | some (.struct fs) => fs | _ => #[]
@[go_sem] theorem und_162 : Try.prog.underlying 162 = some (.struct fs162) := by kernel_rfl
noncomputable def fd162_0 : Field := (fs162[0]?).getD default
@[go_sem] theorem fg162_0 : fs162[0]? = some fd162_0 := by kernel_rfl
@[go_sem] theorem ft162_0 : fd162_0.type = 160 := by kernel_rfl
@[go_sem] theorem fo162_0 : fd162_0.offset = 0 := by kernel_rfl
noncomputable def fd162_1 : Field := (fs162[1]?).getD default
@[go_sem] theorem fg162_1 : fs162[1]? = some fd162_1 := by kernel_rfl
@[go_sem] theorem ft162_1 : fd162_1.type = 41 := by kernel_rfl
@[go_sem] theorem fo162_1 : fd162_1.offset = 2 := by kernel_rfl
noncomputable def fd162_2 : Field := (fs162[2]?).getD default
@[go_sem] theorem fg162_2 : fs162[2]? = some fd162_2 := by kernel_rfl
@[go_sem] theorem ft162_2 : fd162_2.type = 3 := by kernel_rfl
@[go_sem] theorem fo162_2 : fd162_2.offset = 3 := by kernel_rfl
@[go_sem] theorem pl162 : fs162.toList.mapM (fun f => (Try.prog.info? f.type).map fun i => (f.offset, i.size)) = some [(0, 2), (2, 1), (3, 1)] := by kernel_rfl
noncomputable def ti162 : TypeInfo := (Try.prog.info? 162).getD default
@[go_sem] theorem inf_162 : Try.prog.info? 162 = some ti162 := by kernel_rfl
@[go_sem] theorem tis162 : ti162.size = 4 := by kernel_rfl
@[go_sem] theorem tib162 : ti162.bytes = 32 := by kernel_rfl
noncomputable def zv162 : Value := (ti162.zero).getD Go.undef
@[go_sem] theorem tiz162 : ti162.zero = some zv162 := by kernel_rfl
@[go_sem ↓] theorem zvs162 : zv162.cells.size = 4 := by kernel_rfl
@[go_sem ↓] theorem zvo162 : zv162.cells.toList.all (fun v => v.oneCell') = true := by kernel_rfl
@[go_sem ↓] theorem zvv162 : zv162.cells.toList.map vOf = [.int .i64 0, .int .i64 0, .int .i8 0, .int .i64 0] := by kernel_rfl
@[go_sem] theorem und_167 : Try.prog.underlying 167 = some (.int .i64) := by kernel_rfl
noncomputable def ti167 : TypeInfo := (Try.prog.info? 167).getD default
@[go_sem] theorem inf_167 : Try.prog.info? 167 = some ti167 := by kernel_rfl
@[go_sem] theorem tis167 : ti167.size = 1 := by kernel_rfl
@[go_sem] theorem tib167 : ti167.bytes = 8 := by kernel_rfl
noncomputable def zv167 : Value := (ti167.zero).getD Go.undef
@[go_sem] theorem tiz167 : ti167.zero = some zv167 := by kernel_rfl
@[go_sem ↓] theorem zvs167 : zv167.cells.size = 1 := by kernel_rfl
@[go_sem ↓] theorem zvo167 : zv167.cells.toList.all (fun v => v.oneCell') = true := by kernel_rfl
@[go_sem ↓] theorem zvv167 : zv167.cells.toList.map vOf = [.int .i64 0] := by kernel_rfl
@[go_sem] theorem und_175 : Try.prog.underlying 175 = some (.int .u32) := by kernel_rfl
noncomputable def ti175 : TypeInfo := (Try.prog.info? 175).getD default
@[go_sem] theorem inf_175 : Try.prog.info? 175 = some ti175 := by kernel_rfl
@[go_sem] theorem tis175 : ti175.size = 1 := by kernel_rfl
@[go_sem] theorem tib175 : ti175.bytes = 4 := by kernel_rfl
noncomputable def zv175 : Value := (ti175.zero).getD Go.undef
@[go_sem] theorem tiz175 : ti175.zero = some zv175 := by kernel_rfl
@[go_sem ↓] theorem zvs175 : zv175.cells.size = 1 := by kernel_rfl
@[go_sem ↓] theorem zvo175 : zv175.cells.toList.all (fun v => v.oneCell') = true := by kernel_rfl
@[go_sem ↓] theorem zvv175 : zv175.cells.toList.map vOf = [.int .u32 0] := by kernel_rfl
@[go_sem] theorem und_178 : Try.prog.underlying 178 = some (.pointer 154) := by kernel_rfl
noncomputable def ti178 : TypeInfo := (Try.prog.info? 178).getD default
@[go_sem] theorem inf_178 : Try.prog.info? 178 = some ti178 := by kernel_rfl
@[go_sem] theorem tis178 : ti178.size = 1 := by kernel_rfl
@[go_sem] theorem tib178 : ti178.bytes = 8 := by kernel_rfl
noncomputable def zv178 : Value := (ti178.zero).getD Go.undef
@[go_sem] theorem tiz178 : ti178.zero = some zv178 := by kernel_rfl
@[go_sem ↓] theorem zvs178 : zv178.cells.size = 1 := by kernel_rfl
@[go_sem ↓] theorem zvo178 : zv178.cells.toList.all (fun v => v.oneCell') = true := by kernel_rfl
@[go_sem ↓] theorem zvv178 : zv178.cells.toList.map vOf = [.nilp] := by kernel_rfl
@[go_sem] theorem und_179 : Try.prog.underlying 179 = some (.slice 162) := by kernel_rfl
noncomputable def ti179 : TypeInfo := (Try.prog.info? 179).getD default
@[go_sem] theorem inf_179 : Try.prog.info? 179 = some ti179 := by kernel_rfl
@[go_sem] theorem tis179 : ti179.size = 1 := by kernel_rfl
@[go_sem] theorem tib179 : ti179.bytes = 24 := by kernel_rfl
noncomputable def zv179 : Value := (ti179.zero).getD Go.undef
@[go_sem] theorem tiz179 : ti179.zero = some zv179 := by kernel_rfl
@[go_sem ↓] theorem zvs179 : zv179.cells.size = 1 := by kernel_rfl
@[go_sem ↓] theorem zvo179 : zv179.cells.toList.all (fun v => v.oneCell') = true := by kernel_rfl
@[go_sem ↓] theorem zvv179 : zv179.cells.toList.map vOf = [.sl [] true] := by kernel_rfl
@[go_sem] theorem und_182 : Try.prog.underlying 182 = some (.int .u64) := by kernel_rfl
noncomputable def ti182 : TypeInfo := (Try.prog.info? 182).getD default
@[go_sem] theorem inf_182 : Try.prog.info? 182 = some ti182 := by kernel_rfl
@[go_sem] theorem tis182 : ti182.size = 1 := by kernel_rfl
@[go_sem] theorem tib182 : ti182.bytes = 8 := by kernel_rfl
noncomputable def zv182 : Value := (ti182.zero).getD Go.undef
@[go_sem] theorem tiz182 : ti182.zero = some zv182 := by kernel_rfl
@[go_sem ↓] theorem zvs182 : zv182.cells.size = 1 := by kernel_rfl
@[go_sem ↓] theorem zvo182 : zv182.cells.toList.all (fun v => v.oneCell') = true := by kernel_rfl
@[go_sem ↓] theorem zvv182 : zv182.cells.toList.map vOf = [.int .u64 0] := by kernel_rfl
@[go_sem] theorem und_186 : Try.prog.underlying 186 = some (.pointer 3) := by kernel_rfl
noncomputable def ti186 : TypeInfo := (Try.prog.info? 186).getD default
@[go_sem] theorem inf_186 : Try.prog.info? 186 = some ti186 := by kernel_rfl
@[go_sem] theorem tis186 : ti186.size = 1 := by kernel_rfl
@[go_sem] theorem tib186 : ti186.bytes = 8 := by kernel_rfl
noncomputable def zv186 : Value := (ti186.zero).getD Go.undef
@[go_sem] theorem tiz186 : ti186.zero = some zv186 := by kernel_rfl
@[go_sem ↓] theorem zvs186 : zv186.cells.size = 1 := by kernel_rfl
@[go_sem ↓] theorem zvo186 : zv186.cells.toList.all (fun v => v.oneCell') = true := by kernel_rfl
@[go_sem ↓] theorem zvv186 : zv186.cells.toList.map vOf = [.nilp] := by kernel_rfl
@[go_sem] theorem und_189 : Try.prog.underlying 189 = some (.pointer 182) := by kernel_rfl
noncomputable def ti189 : TypeInfo := (Try.prog.info? 189).getD default
@[go_sem] theorem inf_189 : Try.prog.info? 189 = some ti189 := by kernel_rfl
@[go_sem] theorem tis189 : ti189.size = 1 := by kernel_rfl
@[go_sem] theorem tib189 : ti189.bytes = 8 := by kernel_rfl
noncomputable def zv189 : Value := (ti189.zero).getD Go.undef
@[go_sem] theorem tiz189 : ti189.zero = some zv189 := by kernel_rfl
@[go_sem ↓] theorem zvs189 : zv189.cells.size = 1 := by kernel_rfl
@[go_sem ↓] theorem zvo189 : zv189.cells.toList.all (fun v => v.oneCell') = true := by kernel_rfl
@[go_sem ↓] theorem zvv189 : zv189.cells.toList.map vOf = [.nilp] := by kernel_rfl
@[go_sem] theorem und_192 : Try.prog.underlying 192 = some (.pointer 199) := by kernel_rfl
noncomputable def ti192 : TypeInfo := (Try.prog.info? 192).getD default
@[go_sem] theorem inf_192 : Try.prog.info? 192 = some ti192 := by kernel_rfl
@[go_sem] theorem tis192 : ti192.size = 1 := by kernel_rfl
@[go_sem] theorem tib192 : ti192.bytes = 8 := by kernel_rfl
noncomputable def zv192 : Value := (ti192.zero).getD Go.undef
@[go_sem] theorem tiz192 : ti192.zero = some zv192 := by kernel_rfl
@[go_sem ↓] theorem zvs192 : zv192.cells.size = 1 := by kernel_rfl
@[go_sem ↓] theorem zvo192 : zv192.cells.toList.all (fun v => v.oneCell') = true := by kernel_rfl
@[go_sem ↓] theorem zvv192 : zv192.cells.toList.map vOf = [.nilp] := by kernel_rfl
noncomputable def fs195 : Array Field := match Try.prog.underlying 195 with | some (.struct fs) => fs | _ => #[]
@[go_sem] theorem und_195 : Try.prog.underlying 195 = some (.struct fs195) := by kernel_rfl
noncomputable def fd195_0 : Field := (fs195[0]?).getD default
@[go_sem] theorem fg195_0 : fs195[0]? = some fd195_0 := by kernel_rfl
@[go_sem] theorem ft195_0 : fd195_0.type = 175 := by kernel_rfl
@[go_sem] theorem fo195_0 : fd195_0.offset = 0 := by kernel_rfl
@[go_sem] theorem pl195 : fs195.toList.mapM (fun f => (Try.prog.info? f.type).map fun i => (f.offset, i.size)) = some [(0, 1)] := by kernel_rfl
noncomputable def ti195 : TypeInfo := (Try.prog.info? 195).getD default
@[go_sem] theorem inf_195 : Try.prog.info? 195 = some ti195 := by kernel_rfl
@[go_sem] theorem tis195 : ti195.size = 1 := by kernel_rfl
@[go_sem] theorem tib195 : ti195.bytes = 4 := by kernel_rfl
noncomputable def zv195 : Value := (ti195.zero).getD Go.undef
@[go_sem] theorem tiz195 : ti195.zero = some zv195 := by kernel_rfl
@[go_sem ↓] theorem zvs195 : zv195.cells.size = 1 := by kernel_rfl
@[go_sem ↓] theorem zvo195 : zv195.cells.toList.all (fun v => v.oneCell') = true := by kernel_rfl
@[go_sem ↓] theorem zvv195 : zv195.cells.toList.map vOf = [.int .u32 0] := by kernel_rfl
noncomputable def fs196 : Array Field := match Try.prog.underlying 196 with | some (.struct fs) => fs | _ => #[]
@[go_sem] theorem und_196 : Try.prog.underlying 196 = some (.struct fs196) := by kernel_rfl
noncomputable def fd196_0 : Field := (fs196[0]?).getD default
@[go_sem] theorem fg196_0 : fs196[0]? = some fd196_0 := by kernel_rfl
@[go_sem] theorem ft196_0 : fd196_0.type = 175 := by kernel_rfl
@[go_sem] theorem fo196_0 : fd196_0.offset = 0 := by kernel_rfl
@[go_sem] theorem pl196 : fs196.toList.mapM (fun f => (Try.prog.info? f.type).map fun i => (f.offset, i.size)) = some [(0, 1)] := by kernel_rfl
noncomputable def ti196 : TypeInfo := (Try.prog.info? 196).getD default
@[go_sem] theorem inf_196 : Try.prog.info? 196 = some ti196 := by kernel_rfl
@[go_sem] theorem tis196 : ti196.size = 1 := by kernel_rfl
@[go_sem] theorem tib196 : ti196.bytes = 4 := by kernel_rfl
noncomputable def zv196 : Value := (ti196.zero).getD Go.undef
@[go_sem] theorem tiz196 : ti196.zero = some zv196 := by kernel_rfl
@[go_sem ↓] theorem zvs196 : zv196.cells.size = 1 := by kernel_rfl
@[go_sem ↓] theorem zvo196 : zv196.cells.toList.all (fun v => v.oneCell') = true := by kernel_rfl
@[go_sem ↓] theorem zvv196 : zv196.cells.toList.map vOf = [.int .u32 0] := by kernel_rfl
@[go_sem] theorem und_197 : Try.prog.underlying 197 = some (.array 16 175) := by kernel_rfl
noncomputable def ti197 : TypeInfo := (Try.prog.info? 197).getD default
@[go_sem] theorem inf_197 : Try.prog.info? 197 = some ti197 := by kernel_rfl
@[go_sem] theorem tis197 : ti197.size = 16 := by kernel_rfl
@[go_sem] theorem tib197 : ti197.bytes = 64 := by kernel_rfl
noncomputable def zv197 : Value := (ti197.zero).getD Go.undef
@[go_sem] theorem tiz197 : ti197.zero = some zv197 := by kernel_rfl
@[go_sem ↓] theorem zvs197 : zv197.cells.size = 16 := by kernel_rfl
@[go_sem ↓] theorem zvo197 : zv197.cells.toList.all (fun v => v.oneCell') = true := by kernel_rfl
@[go_sem ↓] theorem zvv197 : zv197.cells.toList.map vOf = [.int .u32 0, .int .u32 0, .int .u32 0, .int .u32 0, .int .u32 0, .int .u32 0, .int .u32 0, .int .u32 0, .int .u32 0, .int .u32 0, .int .u32 0, .int .u32 0, .int .u32 0, .int .u32 0, .int .u32 0, .int .u32 0] := by kernel_rfl
noncomputable def fs198 : Array Field := match Try.prog.underlying 198 with | some (.struct fs) => fs | _ => #[]
@[go_sem] theorem und_198 : Try.prog.underlying 198 = some (.struct fs198) := by kernel_rfl
noncomputable def fd198_0 : Field := (fs198[0]?).getD default
@[go_sem] theorem fg198_0 : fs198[0]? = some fd198_0 := by kernel_rfl
@[go_sem] theorem ft198_0 : fd198_0.type = 196 := by kernel_rfl
@[go_sem] theorem fo198_0 : fd198_0.offset = 0 := by kernel_rfl
noncomputable def fd198_1 : Field := (fs198[1]?).getD default
@[go_sem] theorem fg198_1 : fs198[1]? = some fd198_1 := by kernel_rfl
@[go_sem] theorem ft198_1 : fd198_1.type = 197 := by kernel_rfl
@[go_sem] theorem fo198_1 : fd198_1.offset = 1 := by kernel_rfl
@[go_sem] theorem pl198 : fs198.toList.mapM (fun f => (Try.prog.info? f.type).map fun i => (f.offset, i.size)) = some [(0, 1), (1, 16)] := by kernel_rfl
noncomputable def ti198 : TypeInfo := (Try.prog.info? 198).getD default
@[go_sem] theorem inf_198 : Try.prog.info? 198 = some ti198 := by kernel_rfl
@[go_sem] theorem tis198 : ti198.size = 17 := by kernel_rfl
@[go_sem] theorem tib198 : ti198.bytes = 68 := by kernel_rfl
noncomputable def zv198 : Value := (ti198.zero).getD Go.undef
@[go_sem] theorem tiz198 : ti198.zero = some zv198 := by kernel_rfl
@[go_sem ↓] theorem zvs198 : zv198.cells.size = 17 := by kernel_rfl
@[go_sem ↓] theorem zvo198 : zv198.cells.toList.all (fun v => v.oneCell') = true := by kernel_rfl
@[go_sem ↓] theorem zvv198 : zv198.cells.toList.map vOf = [.int .u32 0, .int .u32 0, .int .u32 0, .int .u32 0, .int .u32 0, .int .u32 0, .int .u32 0, .int .u32 0, .int .u32 0, .int .u32 0, .int .u32 0, .int .u32 0, .int .u32 0, .int .u32 0, .int .u32 0, .int .u32 0, .int .u32 0] := by kernel_rfl
noncomputable def fs199 : Array Field := match Try.prog.underlying 199 with | some (.struct fs) => fs | _ => #[]
@[go_sem] theorem und_199 : Try.prog.underlying 199 = some (.struct fs199) := by kernel_rfl
noncomputable def fd199_0 : Field := (fs199[0]?).getD default
@[go_sem] theorem fg199_0 : fs199[0]? = some fd199_0 := by kernel_rfl
@[go_sem] theorem ft199_0 : fd199_0.type = 196 := by kernel_rfl
@[go_sem] theorem fo199_0 : fd199_0.offset = 0 := by kernel_rfl
noncomputable def fd199_1 : Field := (fs199[1]?).getD default
@[go_sem] theorem fg199_1 : fs199[1]? = some fd199_1 := by kernel_rfl
@[go_sem] theorem ft199_1 : fd199_1.type = 197 := by kernel_rfl
@[go_sem] theorem fo199_1 : fd199_1.offset = 1 := by kernel_rfl
@[go_sem] theorem pl199 : fs199.toList.mapM (fun f => (Try.prog.info? f.type).map fun i => (f.offset, i.size)) = some [(0, 1), (1, 16)] := by kernel_rfl
noncomputable def ti199 : TypeInfo := (Try.prog.info? 199).getD default
@[go_sem] theorem inf_199 : Try.prog.info? 199 = some ti199 := by kernel_rfl
@[go_sem] theorem tis199 : ti199.size = 17 := by kernel_rfl
@[go_sem] theorem tib199 : ti199.bytes = 68 := by kernel_rfl
noncomputable def zv199 : Value := (ti199.zero).getD Go.undef
@[go_sem] theorem tiz199 : ti199.zero = some zv199 := by kernel_rfl
@[go_sem ↓] theorem zvs199 : zv199.cells.size = 17 := by kernel_rfl
@[go_sem ↓] theorem zvo199 : zv199.cells.toList.all (fun v => v.oneCell') = true := by kernel_rfl
@[go_sem ↓] theorem zvv199 : zv199.cells.toList.map vOf = [.int .u32 0, .int .u32 0, .int .u32 0, .int .u32 0, .int .u32 0, .int .u32 0, .int .u32 0, .int .u32 0, .int .u32 0, .int .u32 0, .int .u32 0, .int .u32 0, .int .u32 0, .int .u32 0, .int .u32 0, .int .u32 0, .int .u32 0] := by kernel_rfl
theorem mixed : Try.prog.follows .mixedOrders = true := by kernel_rfl
end Go.Proofs.Ytllijcnbjbfabaa

/- The tables of the program. -/
import Derived.Test.YtkjihmlighigjaaGreatRepairAliveM27
import Derived.Test.YtkjihmlighigjaaGreatChecked
namespace Go.Proofs.YtkjihmlighigjaaGreat
open Go.RowKit
set_option maxRecDepth 100000

@[go_sem] theorem und_2 : Tryz.prog.underlying 2 = some (.int .i64) := by kernel_rfl
noncomputable def ti2 : TypeInfo := (Tryz.prog.info? 2).getD default
@[go_sem] theorem inf_2 : Tryz.prog.info? 2 = some ti2 := by kernel_rfl
@[go_sem] theorem tis2 : ti2.size = 1 := by kernel_rfl
@[go_sem] theorem tib2 : ti2.bytes = 8 := by kernel_rfl
noncomputable def zv2 : Value := (ti2.zero).getD Go.undef
@[go_sem] theorem tiz2 : ti2.zero = some zv2 := by kernel_rfl
@[go_sem ↓] theorem zvs2 : zv2.cells.size = 1 := by kernel_rfl
@[go_sem ↓] theorem zvo2 : zv2.cells.toList.all (fun v => v.oneCell') = true := by kernel_rfl
@[go_sem ↓] theorem zvv2 : zv2.cells.toList.map vOf = [.int .i64 0] := by kernel_rfl
@[go_sem] theorem und_3 : Tryz.prog.underlying 3 = some (.int .i64) := by kernel_rfl
noncomputable def ti3 : TypeInfo := (Tryz.prog.info? 3).getD default
@[go_sem] theorem inf_3 : Tryz.prog.info? 3 = some ti3 := by kernel_rfl
@[go_sem] theorem tis3 : ti3.size = 1 := by kernel_rfl
@[go_sem] theorem tib3 : ti3.bytes = 8 := by kernel_rfl
noncomputable def zv3 : Value := (ti3.zero).getD Go.undef
@[go_sem] theorem tiz3 : ti3.zero = some zv3 := by kernel_rfl
@[go_sem ↓] theorem zvs3 : zv3.cells.size = 1 := by kernel_rfl
@[go_sem ↓] theorem zvo3 : zv3.cells.toList.all (fun v => v.oneCell') = true := by kernel_rfl
@[go_sem ↓] theorem zvv3 : zv3.cells.toList.map vOf = [.int .i64 0] := by kernel_rfl
@[go_sem] theorem und_4 : Tryz.prog.underlying 4 = some (.bool) := by kernel_rfl
noncomputable def ti4 : TypeInfo := (Tryz.prog.info? 4).getD default
@[go_sem] theorem inf_4 : Tryz.prog.info? 4 = some ti4 := by kernel_rfl
@[go_sem] theorem tis4 : ti4.size = 1 := by kernel_rfl
@[go_sem] theorem tib4 : ti4.bytes = 1 := by kernel_rfl
noncomputable def zv4 : Value := (ti4.zero).getD Go.undef
@[go_sem] theorem tiz4 : ti4.zero = some zv4 := by kernel_rfl
@[go_sem ↓] theorem zvs4 : zv4.cells.size = 1 := by kernel_rfl
@[go_sem ↓] theorem zvo4 : zv4.cells.toList.all (fun v => v.oneCell') = true := by kernel_rfl
@[go_sem ↓] theorem zvv4 : zv4.cells.toList.map vOf = [.bool false] := by kernel_rfl
@[go_sem] theorem und_5 : Tryz.prog.underlying 5 = some (.int .u8) := by kernel_rfl
noncomputable def ti5 : TypeInfo := (Tryz.prog.info? 5).getD default
@[go_sem] theorem inf_5 : Tryz.prog.info? 5 = some ti5 := by kernel_rfl
@[go_sem] theorem tis5 : ti5.size = 1 := by kernel_rfl
@[go_sem] theorem tib5 : ti5.bytes = 1 := by kernel_rfl
noncomputable def zv5 : Value := (ti5.zero).getD Go.undef
@[go_sem] theorem tiz5 : ti5.zero = some zv5 := by kernel_rfl
@[go_sem ↓] theorem zvs5 : zv5.cells.size = 1 := by kernel_rfl
@[go_sem ↓] theorem zvo5 : zv5.cells.toList.all (fun v => v.oneCell') = true := by kernel_rfl
@[go_sem ↓] theorem zvv5 : zv5.cells.toList.map vOf = [.int .u8 0] := by kernel_rfl
@[go_sem] theorem und_9 : Tryz.prog.underlying 9 = some (.string) := by kernel_rfl
noncomputable def ti9 : TypeInfo := (Tryz.prog.info? 9).getD default
@[go_sem] theorem inf_9 : Tryz.prog.info? 9 = some ti9 := by kernel_rfl
@[go_sem] theorem tis9 : ti9.size = 1 := by kernel_rfl
@[go_sem] theorem tib9 : ti9.bytes = 16 := by kernel_rfl
noncomputable def zv9 : Value := (ti9.zero).getD Go.undef
@[go_sem] theorem tiz9 : ti9.zero = some zv9 := by kernel_rfl
@[go_sem ↓] theorem zvs9 : zv9.cells.size = 1 := by kernel_rfl
@[go_sem ↓] theorem zvo9 : zv9.cells.toList.all (fun v => v.oneCell') = true := by kernel_rfl
@[go_sem ↓] theorem zvv9 : zv9.cells.toList.map vOf = [.str ⟨#[]⟩] := by kernel_rfl
noncomputable def fs22 : Array Field := match Tryz.prog.underlying 22 with | some (.struct fs) => fs | _ => #[]
@[go_sem] theorem und_22 : Tryz.prog.underlying 22 = some (.struct fs22) := by kernel_rfl
noncomputable def fd22_0 : Field := (fs22[0]?).getD default
@[go_sem] theorem fg22_0 : fs22[0]? = some fd22_0 := by kernel_rfl
@[go_sem] theorem ft22_0 : fd22_0.type = 3 := by kernel_rfl
@[go_sem] theorem fo22_0 : fd22_0.offset = 0 := by kernel_rfl
noncomputable def fd22_1 : Field := (fs22[1]?).getD default
@[go_sem] theorem fg22_1 : fs22[1]? = some fd22_1 := by kernel_rfl
@[go_sem] theorem ft22_1 : fd22_1.type = 3 := by kernel_rfl
@[go_sem] theorem fo22_1 : fd22_1.offset = 1 := by kernel_rfl
noncomputable def fd22_2 : Field := (fs22[2]?).getD default
@[go_sem] theorem fg22_2 : fs22[2]? = some fd22_2 := by kernel_rfl
@[go_sem] theorem ft22_2 : fd22_2.type = 3 := by kernel_rfl
@[go_sem] theorem fo22_2 : fd22_2.offset = 2 := by kernel_rfl
noncomputable def fd22_3 : Field := (fs22[3]?).getD default
@[go_sem] theorem fg22_3 : fs22[3]? = some fd22_3 := by kernel_rfl
@[go_sem] theorem ft22_3 : fd22_3.type = 3 := by kernel_rfl
@[go_sem] theorem fo22_3 : fd22_3.offset = 3 := by kernel_rfl
noncomputable def fd22_4 : Field := (fs22[4]?).getD default
@[go_sem] theorem fg22_4 : fs22[4]? = some fd22_4 := by kernel_rfl
@[go_sem] theorem ft22_4 : fd22_4.type = 3 := by kernel_rfl
@[go_sem] theorem fo22_4 : fd22_4.offset = 4 := by kernel_rfl
noncomputable def fd22_5 : Field := (fs22[5]?).getD default
@[go_sem] theorem fg22_5 : fs22[5]? = some fd22_5 := by kernel_rfl
@[go_sem] theorem ft22_5 : fd22_5.type = 3 := by kernel_rfl
@[go_sem] theorem fo22_5 : fd22_5.offset = 5 := by kernel_rfl
noncomputable def fd22_6 : Field := (fs22[6]?).getD default
@[go_sem] theorem fg22_6 : fs22[6]? = some fd22_6 := by kernel_rfl
@[go_sem] theorem ft22_6 : fd22_6.type = 3 := by kernel_rfl
@[go_sem] theorem fo22_6 : fd22_6.offset = 6 := by kernel_rfl
noncomputable def fd22_7 : Field := (fs22[7]?).getD default
@[go_sem] theorem fg22_7 : fs22[7]? = some fd22_7 := by kernel_rfl
@[go_sem] theorem ft22_7 : fd22_7.type = 3 := by kernel_rfl
@[go_sem] theorem fo22_7 : fd22_7.offset = 7 := by kernel_rfl
@[go_sem] theorem pl22 : fs22.toList.mapM (fun f => (Tryz.prog.info? f.type).map fun i => (f.offset, i.size)) = some [(0, 1), (1, 1), (2, 1), (3, 1), (4, 1), (5, 1), (6, 1), (7, 1)] := by kernel_rfl
noncomputable def ti22 : TypeInfo := (Tryz.prog.info? 22).getD default
@[go_sem] theorem inf_22 : Tryz.prog.info? 22 = some ti22 := by kernel_rfl
@[go_sem] theorem tis22 : ti22.size = 8 := by kernel_rfl
@[go_sem] theorem tib22 : ti22.bytes = 64 := by kernel_rfl
noncomputable def zv22 : Value := (ti22.zero).getD Go.undef
@[go_sem] theorem tiz22 : ti22.zero = some zv22 := by kernel_rfl
@[go_sem ↓] theorem zvs22 : zv22.cells.size = 8 := by kernel_rfl
@[go_sem ↓] theorem zvo22 : zv22.cells.toList.all (fun v => v.oneCell') = true := by kernel_rfl
@[go_sem ↓] theorem zvv22 : zv22.cells.toList.map vOf = [.int .i64 0, .int .i64 0, .int .i64 0, .int .i64 0, .int .i64 0, .int .i64 0, .int .i64 0, .int .i64 0] := by kernel_rfl
noncomputable def fs23 : Array Field := match Tryz.prog.underlying 23 with | some (.struct fs) => fs | _ => #[]
@[go_sem] theorem und_23 : Tryz.prog.underlying 23 = some (.struct fs23) := by kernel_rfl
noncomputable def fd23_0 : Field := (fs23[0]?).getD default
@[go_sem] theorem fg23_0 : fs23[0]? = some fd23_0 := by kernel_rfl
@[go_sem] theorem ft23_0 : fd23_0.type = 3 := by kernel_rfl
@[go_sem] theorem fo23_0 : fd23_0.offset = 0 := by kernel_rfl
noncomputable def fd23_1 : Field := (fs23[1]?).getD default
@[go_sem] theorem fg23_1 : fs23[1]? = some fd23_1 := by kernel_rfl
@[go_sem] theorem ft23_1 : fd23_1.type = 3 := by kernel_rfl
@[go_sem] theorem fo23_1 : fd23_1.offset = 1 := by kernel_rfl
noncomputable def fd23_2 : Field := (fs23[2]?).getD default
@[go_sem] theorem fg23_2 : fs23[2]? = some fd23_2 := by kernel_rfl
@[go_sem] theorem ft23_2 : fd23_2.type = 3 := by kernel_rfl
@[go_sem] theorem fo23_2 : fd23_2.offset = 2 := by kernel_rfl
noncomputable def fd23_3 : Field := (fs23[3]?).getD default
@[go_sem] theorem fg23_3 : fs23[3]? = some fd23_3 := by kernel_rfl
@[go_sem] theorem ft23_3 : fd23_3.type = 3 := by kernel_rfl
@[go_sem] theorem fo23_3 : fd23_3.offset = 3 := by kernel_rfl
noncomputable def fd23_4 : Field := (fs23[4]?).getD default
@[go_sem] theorem fg23_4 : fs23[4]? = some fd23_4 := by kernel_rfl
@[go_sem] theorem ft23_4 : fd23_4.type = 3 := by kernel_rfl
@[go_sem] theorem fo23_4 : fd23_4.offset = 4 := by kernel_rfl
noncomputable def fd23_5 : Field := (fs23[5]?).getD default
@[go_sem] theorem fg23_5 : fs23[5]? = some fd23_5 := by kernel_rfl
@[go_sem] theorem ft23_5 : fd23_5.type = 3 := by kernel_rfl
@[go_sem] theorem fo23_5 : fd23_5.offset = 5 := by kernel_rfl
noncomputable def fd23_6 : Field := (fs23[6]?).getD default
@[go_sem] theorem fg23_6 : fs23[6]? = some fd23_6 := by kernel_rfl
@[go_sem] theorem ft23_6 : fd23_6.type = 3 := by kernel_rfl
@[go_sem] theorem fo23_6 : fd23_6.offset = 6 := by kernel_rfl
noncomputable def fd23_7 : Field := (fs23[7]?).getD default
@[go_sem] theorem fg23_7 : fs23[7]? = some fd23_7 := by kernel_rfl
@[go_sem] theorem ft23_7 : fd23_7.type = 3 := by kernel_rfl
@[go_sem] theorem fo23_7 : fd23_7.offset = 7 := by kernel_rfl
@[go_sem] theorem pl23 : fs23.toList.mapM (fun f => (Tryz.prog.info? f.type).map fun i => (f.offset, i.size)) = some [(0, 1), (1, 1), (2, 1), (3, 1), (4, 1), (5, 1), (6, 1), (7, 1)] := by kernel_rfl
noncomputable def ti23 : TypeInfo := (Tryz.prog.info? 23).getD default
@[go_sem] theorem inf_23 : Tryz.prog.info? 23 = some ti23 := by kernel_rfl
@[go_sem] theorem tis23 : ti23.size = 8 := by kernel_rfl
@[go_sem] theorem tib23 : ti23.bytes = 64 := by kernel_rfl
noncomputable def zv23 : Value := (ti23.zero).getD Go.undef
@[go_sem] theorem tiz23 : ti23.zero = some zv23 := by kernel_rfl
@[go_sem ↓] theorem zvs23 : zv23.cells.size = 8 := by kernel_rfl
@[go_sem ↓] theorem zvo23 : zv23.cells.toList.all (fun v => v.oneCell') = true := by kernel_rfl
@[go_sem ↓] theorem zvv23 : zv23.cells.toList.map vOf = [.int .i64 0, .int .i64 0, .int .i64 0, .int .i64 0, .int .i64 0, .int .i64 0, .int .i64 0, .int .i64 0] := by kernel_rfl
@[go_sem] theorem und_25 : Tryz.prog.underlying 25 = some (.slice 116) := by kernel_rfl
noncomputable def ti25 : TypeInfo := (Tryz.prog.info? 25).getD default
@[go_sem] theorem inf_25 : Tryz.prog.info? 25 = some ti25 := by kernel_rfl
@[go_sem] theorem tis25 : ti25.size = 1 := by kernel_rfl
@[go_sem] theorem tib25 : ti25.bytes = 24 := by kernel_rfl
noncomputable def zv25 : Value := (ti25.zero).getD Go.undef
@[go_sem] theorem tiz25 : ti25.zero = some zv25 := by kernel_rfl
@[go_sem ↓] theorem zvs25 : zv25.cells.size = 1 := by kernel_rfl
@[go_sem ↓] theorem zvo25 : zv25.cells.toList.all (fun v => v.oneCell') = true := by kernel_rfl
@[go_sem ↓] theorem zvv25 : zv25.cells.toList.map vOf = [.sl [] true] := by kernel_rfl
@[go_sem] theorem und_26 : Tryz.prog.underlying 26 = some (.slice 279) := by kernel_rfl
noncomputable def ti26 : TypeInfo := (Tryz.prog.info? 26).getD default
@[go_sem] theorem inf_26 : Tryz.prog.info? 26 = some ti26 := by kernel_rfl
@[go_sem] theorem tis26 : ti26.size = 1 := by kernel_rfl
@[go_sem] theorem tib26 : ti26.bytes = 24 := by kernel_rfl
noncomputable def zv26 : Value := (ti26.zero).getD Go.undef
@[go_sem] theorem tiz26 : ti26.zero = some zv26 := by kernel_rfl
@[go_sem ↓] theorem zvs26 : zv26.cells.size = 1 := by kernel_rfl
@[go_sem ↓] theorem zvo26 : zv26.cells.toList.all (fun v => v.oneCell') = true := by kernel_rfl
@[go_sem ↓] theorem zvv26 : zv26.cells.toList.map vOf = [.sl [] true] := by kernel_rfl
@[go_sem] theorem und_34 : Tryz.prog.underlying 34 = some (.int .i8) := by kernel_rfl
noncomputable def ti34 : TypeInfo := (Tryz.prog.info? 34).getD default
@[go_sem] theorem inf_34 : Tryz.prog.info? 34 = some ti34 := by kernel_rfl
@[go_sem] theorem tis34 : ti34.size = 1 := by kernel_rfl
@[go_sem] theorem tib34 : ti34.bytes = 1 := by kernel_rfl
noncomputable def zv34 : Value := (ti34.zero).getD Go.undef
@[go_sem] theorem tiz34 : ti34.zero = some zv34 := by kernel_rfl
@[go_sem ↓] theorem zvs34 : zv34.cells.size = 1 := by kernel_rfl
@[go_sem ↓] theorem zvo34 : zv34.cells.toList.all (fun v => v.oneCell') = true := by kernel_rfl
@[go_sem ↓] theorem zvv34 : zv34.cells.toList.map vOf = [.int .i8 0] := by kernel_rfl
@[go_sem] theorem und_53 : Tryz.prog.underlying 53 = some (.slice 9) := by kernel_rfl
noncomputable def ti53 : TypeInfo := (Tryz.prog.info? 53).getD default
@[go_sem] theorem inf_53 : Tryz.prog.info? 53 = some ti53 := by kernel_rfl
@[go_sem] theorem tis53 : ti53.size = 1 := by kernel_rfl
@[go_sem] theorem tib53 : ti53.bytes = 24 := by kernel_rfl
noncomputable def zv53 : Value := (ti53.zero).getD Go.undef
@[go_sem] theorem tiz53 : ti53.zero = some zv53 := by kernel_rfl
@[go_sem ↓] theorem zvs53 : zv53.cells.size = 1 := by kernel_rfl
@[go_sem ↓] theorem zvo53 : zv53.cells.toList.all (fun v => v.oneCell') = true := by kernel_rfl
@[go_sem ↓] theorem zvv53 : zv53.cells.toList.map vOf = [.sl [] true] := by kernel_rfl
@[go_sem] theorem und_75 : Tryz.prog.underlying 75 = some (.slice 3) := by kernel_rfl
noncomputable def ti75 : TypeInfo := (Tryz.prog.info? 75).getD default
@[go_sem] theorem inf_75 : Tryz.prog.info? 75 = some ti75 := by kernel_rfl
@[go_sem] theorem tis75 : ti75.size = 1 := by kernel_rfl
@[go_sem] theorem tib75 : ti75.bytes = 24 := by kernel_rfl
noncomputable def zv75 : Value := (ti75.zero).getD Go.undef
@[go_sem] theorem tiz75 : ti75.zero = some zv75 := by kernel_rfl
@[go_sem ↓] theorem zvs75 : zv75.cells.size = 1 := by kernel_rfl
@[go_sem ↓] theorem zvo75 : zv75.cells.toList.all (fun v => v.oneCell') = true := by kernel_rfl
@[go_sem ↓] theorem zvv75 : zv75.cells.toList.map vOf = [.sl [] true] := by kernel_rfl
noncomputable def fs116 : Array Field := match Tryz.prog.underlying 116 with | some (.struct fs) => fs | _ => #[]
@[go_sem] theorem und_116 : Tryz.prog.underlying 116 = some (.struct fs116) := by kernel_rfl
noncomputable def fd116_0 : Field := (fs116[0]?).getD default
@[go_sem] theorem fg116_0 : fs116[0]? = some fd116_0 := by kernel_rfl
@[go_sem] theorem ft116_0 : fd116_0.type = 3 := by kernel_rfl
@[go_sem] theorem fo116_0 : fd116_0.offset = 0 := by kernel_rfl
noncomputable def fd116_1 : Field := (fs116[1]?).getD default
@[go_sem] theorem fg116_1 : fs116[1]? = some fd116_1 := by kernel_rfl
@[go_sem] theorem ft116_1 : fd116_1.type = 3 := by kernel_rfl
@[go_sem] theorem fo116_1 : fd116_1.offset = 1 := by kernel_rfl
@[go_sem] theorem pl116 : fs116.toList.mapM (fun f => (Tryz.prog.info? f.type).map fun i => (f.offset, i.size)) = some [(0, 1), (1, 1)] := by kernel_rfl
noncomputable def ti116 : TypeInfo := (Tryz.prog.info? 116).getD default
@[go_sem] theorem inf_116 : Tryz.prog.info? 116 = some ti116 := by kernel_rfl
@[go_sem] theorem tis116 : ti116.size = 2 := by kernel_rfl
@[go_sem] theorem tib116 : ti116.bytes = 16 := by kernel_rfl
noncomputable def zv116 : Value := (ti116.zero).getD Go.undef
@[go_sem] theorem tiz116 : ti116.zero = some zv116 := by kernel_rfl
@[go_sem ↓] theorem zvs116 : zv116.cells.size = 2 := by kernel_rfl
@[go_sem ↓] theorem zvo116 : zv116.cells.toList.all (fun v => v.oneCell') = true := by kernel_rfl
@[go_sem ↓] theorem zvv116 : zv116.cells.toList.map vOf = [.int .i64 0, .int .i64 0] := by kernel_rfl
@[go_sem] theorem und_175 : Tryz.prog.underlying 175 = some (.slice 5) := by kernel_rfl
noncomputable def ti175 : TypeInfo := (Tryz.prog.info? 175).getD default
@[go_sem] theorem inf_175 : Tryz.prog.info? 175 = some ti175 := by kernel_rfl
@[go_sem] theorem tis175 : ti175.size = 1 := by kernel_rfl
@[go_sem] theorem tib175 : ti175.bytes = 24 := by kernel_rfl
noncomputable def zv175 : Value := (ti175.zero).getD Go.undef
@[go_sem] theorem tiz175 : ti175.zero = some zv175 := by kernel_rfl
@[go_sem ↓] theorem zvs175 : zv175.cells.size = 1 := by kernel_rfl
@[go_sem ↓] theorem zvo175 : zv175.cells.toList.all (fun v => v.oneCell') = true := by kernel_rfl
@[go_sem ↓] theorem zvv175 : zv175.cells.toList.map vOf = [.sl [] true] := by kernel_rfl
noncomputable def fs279 : Array Field := match Tryz.prog.underlying 279 with | some (.struct fs) => fs | _ => #[]
@[go_sem] theorem und_279 : Tryz.prog.underlying 279 = some (.struct fs279) := by kernel_rfl
noncomputable def fd279_0 : Field := (fs279[0]?).getD default
@[go_sem] theorem fg279_0 : fs279[0]? = some fd279_0 := by kernel_rfl
@[go_sem] theorem ft279_0 : fd279_0.type = 3 := by kernel_rfl
@[go_sem] theorem fo279_0 : fd279_0.offset = 0 := by kernel_rfl
noncomputable def fd279_1 : Field := (fs279[1]?).getD default
@[go_sem] theorem fg279_1 : fs279[1]? = some fd279_1 := by kernel_rfl
@[go_sem] theorem ft279_1 : fd279_1.type = 36 := by kernel_rfl
@[go_sem] theorem fo279_1 : fd279_1.offset = 1 := by kernel_rfl
noncomputable def fd279_2 : Field := (fs279[2]?).getD default
@[go_sem] theorem fg279_2 : fs279[2]? = some fd279_2 := by kernel_rfl
@[go_sem] theorem ft279_2 : fd279_2.type = 34 := by kernel_rfl
@[go_sem] theorem fo279_2 : fd279_2.offset = 3 := by kernel_rfl
@[go_sem] theorem pl279 : fs279.toList.mapM (fun f => (Tryz.prog.info? f.type).map fun i => (f.offset, i.size)) = some [(0, 1), (1, 2), (3, 1)] := by kernel_rfl
noncomputable def ti279 : TypeInfo := (Tryz.prog.info? 279).getD default
@[go_sem] theorem inf_279 : Tryz.prog.info? 279 = some ti279 := by kernel_rfl
@[go_sem] theorem tis279 : ti279.size = 4 := by kernel_rfl
@[go_sem] theorem tib279 : ti279.bytes = 32 := by kernel_rfl
noncomputable def zv279 : Value := (ti279.zero).getD Go.undef
@[go_sem] theorem tiz279 : ti279.zero = some zv279 := by kernel_rfl
@[go_sem ↓] theorem zvs279 : zv279.cells.size = 4 := by kernel_rfl
@[go_sem ↓] theorem zvo279 : zv279.cells.toList.all (fun v => v.oneCell') = true := by kernel_rfl
@[go_sem ↓] theorem zvv279 : zv279.cells.toList.map vOf = [.int .i64 0, .int .i64 0, .int .i64 0, .int .i8 0] := by kernel_rfl
@[go_sem] theorem und_372 : Tryz.prog.underlying 372 = some (.int .u32) := by kernel_rfl
noncomputable def ti372 : TypeInfo := (Tryz.prog.info? 372).getD default
@[go_sem] theorem inf_372 : Tryz.prog.info? 372 = some ti372 := by kernel_rfl
@[go_sem] theorem tis372 : ti372.size = 1 := by kernel_rfl
@[go_sem] theorem tib372 : ti372.bytes = 4 := by kernel_rfl
noncomputable def zv372 : Value := (ti372.zero).getD Go.undef
@[go_sem] theorem tiz372 : ti372.zero = some zv372 := by kernel_rfl
@[go_sem ↓] theorem zvs372 : zv372.cells.size = 1 := by kernel_rfl
@[go_sem ↓] theorem zvo372 : zv372.cells.toList.all (fun v => v.oneCell') = true := by kernel_rfl
@[go_sem ↓] theorem zvv372 : zv372.cells.toList.map vOf = [.int .u32 0] := by kernel_rfl
theorem mixed : Tryz.prog.follows .mixedOrders = true := by kernel_rfl
end Go.Proofs.YtkjihmlighigjaaGreat

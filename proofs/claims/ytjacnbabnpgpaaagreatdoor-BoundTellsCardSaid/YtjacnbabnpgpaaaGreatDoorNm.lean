/- Numbers by name; the environment. -/
import Derived.Test.YtjacnbabnpgpaaaGreatDoorTab
import Derived.Test.YtjacnbabnpgpaaaGreatDoorZE
import Derived.Test.YtjacnbabnpgpaaaGreatDoorProg
namespace Go.Proofs.YtjacnbabnpgpaaaGreatDoor
noncomputable section
open Go Go.Abs
set_option maxRecDepth 100000
abbrev f_foremanlaw29_BoundTells : Nat := 3
abbrev f_foremanlaw11_Few : Nat := 5
abbrev f_foremanlaw10_Few : Nat := 6
abbrev f_foremanlaw29_awake : Nat := 7
abbrev f_bound_Long : Nat := 8
abbrev f_foremanref29_Long : Nat := 9
abbrev f_foremanref11_Right : Nat := 10
abbrev f_foremanref29_Left : Nat := 11
abbrev f_bound_Left : Nat := 12
abbrev f_bound_Flow : Nat := 13
abbrev f_foremanref29_Flow : Nat := 14
abbrev f_bound_Room : Nat := 15
abbrev f_bound_Most : Nat := 16
abbrev f_bound_Work : Nat := 17
abbrev f_foremanref29_Work : Nat := 18
abbrev f_replay_Rows : Nat := 19
abbrev f_foremanlaw08_Few : Nat := 22
abbrev f_foremanlaw09_Few : Nat := 23
abbrev f_batch_Long : Nat := 24
abbrev f_foremanref10_Right : Nat := 25
abbrev f_foremanref10_Bytes : Nat := 26
abbrev f_foremanref04_Put : Nat := 27
abbrev f_foremanref04_Cut : Nat := 28
abbrev f_foremanref11_in : Nat := 29
abbrev f_foremanref11_node : Nat := 30
abbrev f_bound_sum : Nat := 31
abbrev f_bound_Left_1 : Nat := 32
abbrev f_bound_Flow_1 : Nat := 33
abbrev f_replay_rest : Nat := 34
abbrev f_batch_Cut : Nat := 35
abbrev c_batch_Cut : AFn := a35
abbrev f_replay_ahead : Nat := 36
abbrev f_batch_wrong : Nat := 37
abbrev f_foremanlaw08_few : Nat := 40
abbrev f_rec_Long : Nat := 41
abbrev f_foremanref09_Right : Nat := 42
abbrev f_foremanref10_none : Nat := 43
abbrev f_foremanref10_ID : Nat := 44
abbrev f_foremanref08_Right : Nat := 45
abbrev f_foremanref07_Num : Nat := 46
abbrev f_foremanref09_Bytes : Nat := 47
abbrev f_foremanref07_Text : Nat := 48
abbrev f_foremanref08_Bytes : Nat := 49
abbrev f_foremanref03_Put : Nat := 50
abbrev f_foremanref03_Four : Nat := 51
abbrev f_foremanref09_Name : Nat := 52
abbrev f_op_Bytes : Nat := 53
abbrev f_slices_Chunk_byte : Nat := 55
abbrev f_slices_Clone_byte : Nat := 56
abbrev f_batch_wrong_1 : Nat := 57
abbrev f_slices_ContainsFunc_bytes : Nat := 58
abbrev f_foremanref09_item : Nat := 62
abbrev f_foremanref08_Same : Nat := 63
abbrev f_foremanref08_kinds : Nat := 64
abbrev f_foremanref08_Deep : Nat := 65
abbrev f_foremanref08_Parts : Nat := 66
abbrev f_foremanref07_plain : Nat := 67
abbrev f_foremanref02_Sum : Nat := 68
abbrev f_op_Right : Nat := 69
abbrev f_op_of : Nat := 70
abbrev f_wire_Num : Nat := 71
abbrev f_wire_Text : Nat := 72
abbrev f_value_Put : Nat := 73
abbrev f_frag_Put : Nat := 74
abbrev f_slices_Chunk_byte_1 : Nat := 80
abbrev f_slices_IndexFunc_bytes : Nat := 81
abbrev f_foremanref02_Next : Nat := 84
abbrev f_op_either : Nat := 85
abbrev f_frag_Right : Nat := 86
abbrev f_op_ID : Nat := 87
abbrev f_value_Right : Nat := 88
abbrev f_value_Same : Nat := 89
abbrev f_slices_AppendSeq_byte : Nat := 90
abbrev c_slices_AppendSeq_byte : AFn := a90
abbrev f_wire_groups : Nat := 91
abbrev f_slices_ContainsFunc_Item : Nat := 102
abbrev f_frag_Right_1 : Nat := 103
abbrev f_frag_fits : Nat := 104
abbrev f_op_ID_1 : Nat := 105
abbrev f_strings_ContainsFunc : Nat := 106
abbrev f_value_room_fits : Nat := 107
abbrev f_slices_EqualFunc_Value : Nat := 108
abbrev f_wire_groups_1 : Nat := 109
abbrev f_wire_plain : Nat := 110
abbrev f_frag_Name : Nat := 115
abbrev f_slices_IndexFunc_Item : Nat := 118
abbrev f_frag_within : Nat := 119
abbrev f_slices_ContainsFunc_string : Nat := 120
abbrev f_frag_fits_1 : Nat := 121
abbrev f_strings_IndexFunc : Nat := 122
abbrev f_value_plain : Nat := 123
abbrev f_slices_ContainsFunc_Value : Nat := 124
abbrev f_value_room_fits_1 : Nat := 125
abbrev f_strings_Trim : Nat := 127
abbrev f_slices_IndexFunc_string : Nat := 131
abbrev f_strings_indexFunc : Nat := 132
abbrev f_slices_IndexFunc_Value : Nat := 133
abbrev f_strings_makeASCIISet : Nat := 136
abbrev f_strings_trimLeftASCII : Nat := 137
abbrev f_strings_trimRightASCII : Nat := 138
abbrev f_strings_asciiSet_contains : Nat := 142
abbrev t_Entry : Nat := 53
abbrev t_Item : Nat := 60
abbrev t_Node : Nat := 45
abbrev t_Op : Nat := 32
abbrev t_Rec : Nat := 75
abbrev t_State : Nat := 26
abbrev t_Value : Nat := 29
abbrev t_int : Nat := 3
abbrev t_int64 : Nat := 2
abbrev t_p_value_room : Nat := 137
abbrev t_s_s_uint8 : Nat := 48
abbrev t_s_uint8 : Nat := 54
abbrev t_strings_asciiSet : Nat := 163
abbrev t_uint8 : Nat := 5
abbrev t_value_room : Nat := 139
def prT (f : Nat) : Bool := Nat.beq f 56
def glT (g : Nat) : List DV := match Nat.beq g 0 with
  | true => [.i .u8 0, .i .u8 3, .i .u8 4, .i .u8 29, .i .u8 12, .i .u8 4]
  | false => []
def E : Env := ⟨fnT.get, glT, methOf Tryz.prog, prT⟩
theorem n_foremanlaw29_BoundTells : E.fn f_foremanlaw29_BoundTells = some a3 := by kernel_rfl
theorem n_foremanlaw11_Few : E.fn f_foremanlaw11_Few = some a5 := by kernel_rfl
theorem n_foremanlaw10_Few : E.fn f_foremanlaw10_Few = some a6 := by kernel_rfl
theorem n_bound_Long : E.fn f_bound_Long = some a8 := by kernel_rfl
theorem n_foremanref29_Long : E.fn f_foremanref29_Long = some a9 := by kernel_rfl
theorem n_foremanref11_Right : E.fn f_foremanref11_Right = some a10 := by kernel_rfl
theorem n_foremanref29_Left : E.fn f_foremanref29_Left = some a11 := by kernel_rfl
theorem n_bound_Left : E.fn f_bound_Left = some a12 := by kernel_rfl
theorem n_bound_Flow : E.fn f_bound_Flow = some a13 := by kernel_rfl
theorem n_foremanref29_Flow : E.fn f_foremanref29_Flow = some a14 := by kernel_rfl
theorem n_bound_Room : E.fn f_bound_Room = some a15 := by kernel_rfl
theorem n_bound_Most : E.fn f_bound_Most = some a16 := by kernel_rfl
theorem n_bound_Work : E.fn f_bound_Work = some a17 := by kernel_rfl
theorem n_foremanref29_Work : E.fn f_foremanref29_Work = some a18 := by kernel_rfl
theorem n_replay_Rows : E.fn f_replay_Rows = some a19 := by kernel_rfl
theorem n_foremanlaw08_Few : E.fn f_foremanlaw08_Few = some a22 := by kernel_rfl
theorem n_foremanlaw09_Few : E.fn f_foremanlaw09_Few = some a23 := by kernel_rfl
theorem n_batch_Long : E.fn f_batch_Long = some a24 := by kernel_rfl
theorem n_foremanref10_Right : E.fn f_foremanref10_Right = some a25 := by kernel_rfl
theorem n_foremanref10_Bytes : E.fn f_foremanref10_Bytes = some a26 := by kernel_rfl
theorem n_foremanref04_Put : E.fn f_foremanref04_Put = some a27 := by kernel_rfl
theorem n_foremanref04_Cut : E.fn f_foremanref04_Cut = some a28 := by kernel_rfl
theorem n_foremanref11_in : E.fn f_foremanref11_in = some a29 := by kernel_rfl
theorem n_foremanref11_node : E.fn f_foremanref11_node = some a30 := by kernel_rfl
theorem n_bound_sum : E.fn f_bound_sum = some a31 := by kernel_rfl
theorem n_bound_Left_1 : E.fn f_bound_Left_1 = some a32 := by kernel_rfl
theorem n_bound_Flow_1 : E.fn f_bound_Flow_1 = some a33 := by kernel_rfl
theorem n_replay_rest : E.fn f_replay_rest = some a34 := by kernel_rfl
theorem n_batch_Cut : E.fn f_batch_Cut = some a35 := by kernel_rfl
theorem n_batch_wrong : E.fn f_batch_wrong = some a37 := by kernel_rfl
theorem n_foremanlaw08_few : E.fn f_foremanlaw08_few = some a40 := by kernel_rfl
theorem n_rec_Long : E.fn f_rec_Long = some a41 := by kernel_rfl
theorem n_foremanref09_Right : E.fn f_foremanref09_Right = some a42 := by kernel_rfl
theorem n_foremanref10_none : E.fn f_foremanref10_none = some a43 := by kernel_rfl
theorem n_foremanref10_ID : E.fn f_foremanref10_ID = some a44 := by kernel_rfl
theorem n_foremanref08_Right : E.fn f_foremanref08_Right = some a45 := by kernel_rfl
theorem n_foremanref07_Num : E.fn f_foremanref07_Num = some a46 := by kernel_rfl
theorem n_foremanref09_Bytes : E.fn f_foremanref09_Bytes = some a47 := by kernel_rfl
theorem n_foremanref07_Text : E.fn f_foremanref07_Text = some a48 := by kernel_rfl
theorem n_foremanref08_Bytes : E.fn f_foremanref08_Bytes = some a49 := by kernel_rfl
theorem n_foremanref03_Put : E.fn f_foremanref03_Put = some a50 := by kernel_rfl
theorem n_foremanref03_Four : E.fn f_foremanref03_Four = some a51 := by kernel_rfl
theorem n_foremanref09_Name : E.fn f_foremanref09_Name = some a52 := by kernel_rfl
theorem n_op_Bytes : E.fn f_op_Bytes = some a53 := by kernel_rfl
theorem n_slices_Chunk_byte : E.fn f_slices_Chunk_byte = some a55 := by kernel_rfl
theorem n_batch_wrong_1 : E.fn f_batch_wrong_1 = some a57 := by kernel_rfl
theorem n_slices_ContainsFunc_bytes : E.fn f_slices_ContainsFunc_bytes = some a58 := by kernel_rfl
theorem n_foremanref09_item : E.fn f_foremanref09_item = some a62 := by kernel_rfl
theorem n_foremanref08_Same : E.fn f_foremanref08_Same = some a63 := by kernel_rfl
theorem n_foremanref08_kinds : E.fn f_foremanref08_kinds = some a64 := by kernel_rfl
theorem n_foremanref08_Deep : E.fn f_foremanref08_Deep = some a65 := by kernel_rfl
theorem n_foremanref08_Parts : E.fn f_foremanref08_Parts = some a66 := by kernel_rfl
theorem n_foremanref07_plain : E.fn f_foremanref07_plain = some a67 := by kernel_rfl
theorem n_foremanref02_Sum : E.fn f_foremanref02_Sum = some a68 := by kernel_rfl
theorem n_op_Right : E.fn f_op_Right = some a69 := by kernel_rfl
theorem n_op_of : E.fn f_op_of = some a70 := by kernel_rfl
theorem n_wire_Num : E.fn f_wire_Num = some a71 := by kernel_rfl
theorem n_wire_Text : E.fn f_wire_Text = some a72 := by kernel_rfl
theorem n_value_Put : E.fn f_value_Put = some a73 := by kernel_rfl
theorem n_frag_Put : E.fn f_frag_Put = some a74 := by kernel_rfl
theorem n_slices_Chunk_byte_1 : E.fn f_slices_Chunk_byte_1 = some a80 := by kernel_rfl
theorem n_slices_IndexFunc_bytes : E.fn f_slices_IndexFunc_bytes = some a81 := by kernel_rfl
theorem n_foremanref02_Next : E.fn f_foremanref02_Next = some a84 := by kernel_rfl
theorem n_op_either : E.fn f_op_either = some a85 := by kernel_rfl
theorem n_frag_Right : E.fn f_frag_Right = some a86 := by kernel_rfl
theorem n_op_ID : E.fn f_op_ID = some a87 := by kernel_rfl
theorem n_value_Right : E.fn f_value_Right = some a88 := by kernel_rfl
theorem n_value_Same : E.fn f_value_Same = some a89 := by kernel_rfl
theorem n_slices_AppendSeq_byte : E.fn f_slices_AppendSeq_byte = some a90 := by kernel_rfl
theorem n_wire_groups : E.fn f_wire_groups = some a91 := by kernel_rfl
theorem n_slices_ContainsFunc_Item : E.fn f_slices_ContainsFunc_Item = some a102 := by kernel_rfl
theorem n_frag_Right_1 : E.fn f_frag_Right_1 = some a103 := by kernel_rfl
theorem n_frag_fits : E.fn f_frag_fits = some a104 := by kernel_rfl
theorem n_op_ID_1 : E.fn f_op_ID_1 = some a105 := by kernel_rfl
theorem n_strings_ContainsFunc : E.fn f_strings_ContainsFunc = some a106 := by kernel_rfl
theorem n_value_room_fits : E.fn f_value_room_fits = some a107 := by kernel_rfl
theorem n_slices_EqualFunc_Value : E.fn f_slices_EqualFunc_Value = some a108 := by kernel_rfl
theorem n_wire_groups_1 : E.fn f_wire_groups_1 = some a109 := by kernel_rfl
theorem n_wire_plain : E.fn f_wire_plain = some a110 := by kernel_rfl
theorem n_frag_Name : E.fn f_frag_Name = some a115 := by kernel_rfl
theorem n_slices_IndexFunc_Item : E.fn f_slices_IndexFunc_Item = some a118 := by kernel_rfl
theorem n_frag_within : E.fn f_frag_within = some a119 := by kernel_rfl
theorem n_slices_ContainsFunc_string : E.fn f_slices_ContainsFunc_string = some a120 := by kernel_rfl
theorem n_frag_fits_1 : E.fn f_frag_fits_1 = some a121 := by kernel_rfl
theorem n_strings_IndexFunc : E.fn f_strings_IndexFunc = some a122 := by kernel_rfl
theorem n_value_plain : E.fn f_value_plain = some a123 := by kernel_rfl
theorem n_slices_ContainsFunc_Value : E.fn f_slices_ContainsFunc_Value = some a124 := by kernel_rfl
theorem n_value_room_fits_1 : E.fn f_value_room_fits_1 = some a125 := by kernel_rfl
theorem n_strings_Trim : E.fn f_strings_Trim = some a127 := by kernel_rfl
theorem n_slices_IndexFunc_string : E.fn f_slices_IndexFunc_string = some a131 := by kernel_rfl
theorem n_strings_indexFunc : E.fn f_strings_indexFunc = some a132 := by kernel_rfl
theorem n_slices_IndexFunc_Value : E.fn f_slices_IndexFunc_Value = some a133 := by kernel_rfl
theorem n_strings_trimLeftASCII : E.fn f_strings_trimLeftASCII = some a137 := by kernel_rfl
theorem n_strings_trimRightASCII : E.fn f_strings_trimRightASCII = some a138 := by kernel_rfl
theorem n_strings_asciiSet_contains : E.fn f_strings_asciiSet_contains = some a142 := by kernel_rfl
end
end Go.Proofs.YtjacnbabnpgpaaaGreatDoor

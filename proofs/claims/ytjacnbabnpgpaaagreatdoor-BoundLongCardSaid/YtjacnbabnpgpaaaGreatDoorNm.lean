/- Numbers by name; the environment. -/
import Derived.Test.YtjacnbabnpgpaaaGreatDoorTab
import Derived.Test.YtjacnbabnpgpaaaGreatDoorZE
import Derived.Test.YtjacnbabnpgpaaaGreatDoorProg
namespace Go.Proofs.YtjacnbabnpgpaaaGreatDoor
noncomputable section
open Go Go.Abs
set_option maxRecDepth 100000
abbrev f_foremanlaw29_BoundLong : Nat := 4
abbrev f_foremanlaw10_Few : Nat := 6
abbrev f_foremanlaw29_awake : Nat := 7
abbrev f_bound_Long : Nat := 8
abbrev f_replay_Rows : Nat := 19
abbrev f_batch_Put : Nat := 20
abbrev f_bound_MostLong : Nat := 21
abbrev f_foremanlaw08_Few : Nat := 22
abbrev f_foremanlaw09_Few : Nat := 23
abbrev f_batch_Long : Nat := 24
abbrev f_replay_rest : Nat := 34
abbrev f_batch_Cut : Nat := 35
abbrev c_batch_Cut : AFn := a35
abbrev f_replay_ahead : Nat := 36
abbrev f_batch_wrong : Nat := 37
abbrev f_rec_Put : Nat := 38
abbrev f_batch_count : Nat := 39
abbrev f_foremanlaw08_few : Nat := 40
abbrev f_rec_Long : Nat := 41
abbrev f_op_Bytes : Nat := 53
abbrev f_slices_Chunk_byte : Nat := 55
abbrev f_slices_Clone_byte : Nat := 56
abbrev f_batch_wrong_1 : Nat := 57
abbrev f_slices_ContainsFunc_bytes : Nat := 58
abbrev f_rec_kind : Nat := 59
abbrev f_rec_four : Nat := 60
abbrev f_crc_Sum : Nat := 61
abbrev c_crc_Sum : AFn := a61
abbrev f_op_Right : Nat := 69
abbrev f_op_of : Nat := 70
abbrev f_wire_Num : Nat := 71
abbrev f_wire_Text : Nat := 72
abbrev f_value_Put : Nat := 73
abbrev f_frag_Put : Nat := 74
abbrev f_slices_Chunk_byte_1 : Nat := 80
abbrev f_slices_IndexFunc_bytes : Nat := 81
abbrev f_slices_Values_byte : Nat := 82
abbrev f_crc_Next : Nat := 83
abbrev f_op_either : Nat := 85
abbrev f_frag_Right : Nat := 86
abbrev f_op_ID : Nat := 87
abbrev f_value_Right : Nat := 88
abbrev f_value_Same : Nat := 89
abbrev f_slices_AppendSeq_byte : Nat := 90
abbrev c_slices_AppendSeq_byte : AFn := a90
abbrev f_wire_groups : Nat := 91
abbrev f_slices_Values_byte_1 : Nat := 100
abbrev f_crc_through : Nat := 101
abbrev f_slices_ContainsFunc_Item : Nat := 102
abbrev f_frag_Right_1 : Nat := 103
abbrev f_frag_fits : Nat := 104
abbrev f_op_ID_1 : Nat := 105
abbrev f_strings_ContainsFunc : Nat := 106
abbrev f_value_room_fits : Nat := 107
abbrev f_slices_EqualFunc_Value : Nat := 108
abbrev f_wire_groups_1 : Nat := 109
abbrev f_wire_plain : Nat := 110
abbrev f_frag_Name : Nat := 115
abbrev f_crc_Table : Nat := 117
abbrev f_slices_IndexFunc_Item : Nat := 118
abbrev f_frag_within : Nat := 119
abbrev f_slices_ContainsFunc_string : Nat := 120
abbrev f_frag_fits_1 : Nat := 121
abbrev f_strings_IndexFunc : Nat := 122
abbrev f_value_plain : Nat := 123
abbrev f_slices_ContainsFunc_Value : Nat := 124
abbrev f_value_room_fits_1 : Nat := 125
abbrev f_strings_Trim : Nat := 127
abbrev f_crc_times : Nat := 129
abbrev f_crc_half : Nat := 130
abbrev f_slices_IndexFunc_string : Nat := 131
abbrev f_strings_indexFunc : Nat := 132
abbrev f_slices_IndexFunc_Value : Nat := 133
abbrev f_strings_makeASCIISet : Nat := 136
abbrev f_strings_trimLeftASCII : Nat := 137
abbrev f_strings_trimRightASCII : Nat := 138
abbrev f_crc_times_1 : Nat := 141
abbrev f_strings_asciiSet_contains : Nat := 142
abbrev t_Entry : Nat := 53
abbrev t_Item : Nat := 60
abbrev t_Op : Nat := 32
abbrev t_Rec : Nat := 75
abbrev t_Value : Nat := 29
abbrev t_int : Nat := 3
abbrev t_int64 : Nat := 2
abbrev t_p_value_room : Nat := 137
abbrev t_s_s_uint8 : Nat := 48
abbrev t_s_uint8 : Nat := 54
abbrev t_strings_asciiSet : Nat := 163
abbrev t_uint32 : Nat := 94
abbrev t_uint8 : Nat := 5
abbrev t_value_room : Nat := 139
def prT (f : Nat) : Bool := Nat.beq f 56
def glT (g : Nat) : List DV := match Nat.beq g 0 with
  | true => [.i .u8 0, .i .u8 3, .i .u8 4, .i .u8 29, .i .u8 12, .i .u8 4]
  | false => []
def E : Env := ⟨fnT.get, glT, methOf Tryz.prog, prT⟩
theorem n_foremanlaw29_BoundLong : E.fn f_foremanlaw29_BoundLong = some a4 := by kernel_rfl
theorem n_foremanlaw10_Few : E.fn f_foremanlaw10_Few = some a6 := by kernel_rfl
theorem n_bound_Long : E.fn f_bound_Long = some a8 := by kernel_rfl
theorem n_replay_Rows : E.fn f_replay_Rows = some a19 := by kernel_rfl
theorem n_batch_Put : E.fn f_batch_Put = some a20 := by kernel_rfl
theorem n_foremanlaw08_Few : E.fn f_foremanlaw08_Few = some a22 := by kernel_rfl
theorem n_foremanlaw09_Few : E.fn f_foremanlaw09_Few = some a23 := by kernel_rfl
theorem n_batch_Long : E.fn f_batch_Long = some a24 := by kernel_rfl
theorem n_replay_rest : E.fn f_replay_rest = some a34 := by kernel_rfl
theorem n_batch_Cut : E.fn f_batch_Cut = some a35 := by kernel_rfl
theorem n_batch_wrong : E.fn f_batch_wrong = some a37 := by kernel_rfl
theorem n_rec_Put : E.fn f_rec_Put = some a38 := by kernel_rfl
theorem n_batch_count : E.fn f_batch_count = some a39 := by kernel_rfl
theorem n_foremanlaw08_few : E.fn f_foremanlaw08_few = some a40 := by kernel_rfl
theorem n_rec_Long : E.fn f_rec_Long = some a41 := by kernel_rfl
theorem n_op_Bytes : E.fn f_op_Bytes = some a53 := by kernel_rfl
theorem n_slices_Chunk_byte : E.fn f_slices_Chunk_byte = some a55 := by kernel_rfl
theorem n_batch_wrong_1 : E.fn f_batch_wrong_1 = some a57 := by kernel_rfl
theorem n_slices_ContainsFunc_bytes : E.fn f_slices_ContainsFunc_bytes = some a58 := by kernel_rfl
theorem n_rec_four : E.fn f_rec_four = some a60 := by kernel_rfl
theorem n_crc_Sum : E.fn f_crc_Sum = some a61 := by kernel_rfl
theorem n_op_Right : E.fn f_op_Right = some a69 := by kernel_rfl
theorem n_op_of : E.fn f_op_of = some a70 := by kernel_rfl
theorem n_wire_Num : E.fn f_wire_Num = some a71 := by kernel_rfl
theorem n_wire_Text : E.fn f_wire_Text = some a72 := by kernel_rfl
theorem n_value_Put : E.fn f_value_Put = some a73 := by kernel_rfl
theorem n_frag_Put : E.fn f_frag_Put = some a74 := by kernel_rfl
theorem n_slices_Chunk_byte_1 : E.fn f_slices_Chunk_byte_1 = some a80 := by kernel_rfl
theorem n_slices_IndexFunc_bytes : E.fn f_slices_IndexFunc_bytes = some a81 := by kernel_rfl
theorem n_slices_Values_byte : E.fn f_slices_Values_byte = some a82 := by kernel_rfl
theorem n_crc_Next : E.fn f_crc_Next = some a83 := by kernel_rfl
theorem n_op_either : E.fn f_op_either = some a85 := by kernel_rfl
theorem n_frag_Right : E.fn f_frag_Right = some a86 := by kernel_rfl
theorem n_op_ID : E.fn f_op_ID = some a87 := by kernel_rfl
theorem n_value_Right : E.fn f_value_Right = some a88 := by kernel_rfl
theorem n_value_Same : E.fn f_value_Same = some a89 := by kernel_rfl
theorem n_slices_AppendSeq_byte : E.fn f_slices_AppendSeq_byte = some a90 := by kernel_rfl
theorem n_wire_groups : E.fn f_wire_groups = some a91 := by kernel_rfl
theorem n_slices_Values_byte_1 : E.fn f_slices_Values_byte_1 = some a100 := by kernel_rfl
theorem n_crc_through : E.fn f_crc_through = some a101 := by kernel_rfl
theorem n_slices_ContainsFunc_Item : E.fn f_slices_ContainsFunc_Item = some a102 := by kernel_rfl
theorem n_frag_Right_1 : E.fn f_frag_Right_1 = some a103 := by kernel_rfl
theorem n_frag_fits : E.fn f_frag_fits = some a104 := by kernel_rfl
theorem n_op_ID_1 : E.fn f_op_ID_1 = some a105 := by kernel_rfl
theorem n_strings_ContainsFunc : E.fn f_strings_ContainsFunc = some a106 := by kernel_rfl
theorem n_value_room_fits : E.fn f_value_room_fits = some a107 := by kernel_rfl
theorem n_slices_EqualFunc_Value : E.fn f_slices_EqualFunc_Value = some a108 := by kernel_rfl
theorem n_wire_groups_1 : E.fn f_wire_groups_1 = some a109 := by kernel_rfl
theorem n_wire_plain : E.fn f_wire_plain = some a110 := by kernel_rfl
theorem n_frag_Name : E.fn f_frag_Name = some a115 := by kernel_rfl
theorem n_crc_Table : E.fn f_crc_Table = some a117 := by kernel_rfl
theorem n_slices_IndexFunc_Item : E.fn f_slices_IndexFunc_Item = some a118 := by kernel_rfl
theorem n_frag_within : E.fn f_frag_within = some a119 := by kernel_rfl
theorem n_slices_ContainsFunc_string : E.fn f_slices_ContainsFunc_string = some a120 := by kernel_rfl
theorem n_frag_fits_1 : E.fn f_frag_fits_1 = some a121 := by kernel_rfl
theorem n_strings_IndexFunc : E.fn f_strings_IndexFunc = some a122 := by kernel_rfl
theorem n_value_plain : E.fn f_value_plain = some a123 := by kernel_rfl
theorem n_slices_ContainsFunc_Value : E.fn f_slices_ContainsFunc_Value = some a124 := by kernel_rfl
theorem n_value_room_fits_1 : E.fn f_value_room_fits_1 = some a125 := by kernel_rfl
theorem n_strings_Trim : E.fn f_strings_Trim = some a127 := by kernel_rfl
theorem n_crc_half : E.fn f_crc_half = some a130 := by kernel_rfl
theorem n_slices_IndexFunc_string : E.fn f_slices_IndexFunc_string = some a131 := by kernel_rfl
theorem n_strings_indexFunc : E.fn f_strings_indexFunc = some a132 := by kernel_rfl
theorem n_slices_IndexFunc_Value : E.fn f_slices_IndexFunc_Value = some a133 := by kernel_rfl
theorem n_strings_trimLeftASCII : E.fn f_strings_trimLeftASCII = some a137 := by kernel_rfl
theorem n_strings_trimRightASCII : E.fn f_strings_trimRightASCII = some a138 := by kernel_rfl
theorem n_crc_times_1 : E.fn f_crc_times_1 = some a141 := by kernel_rfl
theorem n_strings_asciiSet_contains : E.fn f_strings_asciiSet_contains = some a142 := by kernel_rfl
end
end Go.Proofs.YtjacnbabnpgpaaaGreatDoor

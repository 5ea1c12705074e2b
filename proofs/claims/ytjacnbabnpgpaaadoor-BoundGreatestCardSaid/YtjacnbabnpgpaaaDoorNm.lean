/- Numbers by name; the environment. -/
import Derived.Test.YtjacnbabnpgpaaaDoorTab
import Derived.Test.YtjacnbabnpgpaaaDoorZE
import Derived.Test.YtjacnbabnpgpaaaDoorProg
namespace Go.Proofs.YtjacnbabnpgpaaaDoor
noncomputable section
open Go Go.Abs
set_option maxRecDepth 100000
abbrev f_foremanlaw29_BoundGreatest : Nat := 3
abbrev c_foremanlaw29_BoundGreatest : AFn := a3
abbrev f_bound_Long : Nat := 4
abbrev c_bound_Long : AFn := a4
abbrev f_bound_MostLong : Nat := 5
abbrev c_bound_MostLong : AFn := a5
abbrev f_foremanlaw29_awake : Nat := 6
abbrev c_foremanlaw29_awake : AFn := a6
abbrev f_replay_Rows : Nat := 7
abbrev c_replay_Rows : AFn := a7
abbrev f_batch_Long : Nat := 8
abbrev c_batch_Long : AFn := a8
abbrev f_bound_Work : Nat := 9
abbrev c_bound_Work : AFn := a9
abbrev f_bound_Most : Nat := 10
abbrev c_bound_Most : AFn := a10
abbrev f_replay_rest : Nat := 11
abbrev c_replay_rest : AFn := a11
abbrev f_batch_Cut : Nat := 12
abbrev c_batch_Cut : AFn := a12
abbrev f_replay_ahead : Nat := 13
abbrev c_replay_ahead : AFn := a13
abbrev f_batch_wrong : Nat := 14
abbrev c_batch_wrong : AFn := a14
abbrev f_rec_Long : Nat := 15
abbrev c_rec_Long : AFn := a15
abbrev f_op_Bytes : Nat := 16
abbrev c_op_Bytes : AFn := a16
abbrev f_snap_Bytes : Nat := 17
abbrev c_snap_Bytes : AFn := a17
abbrev f_slices_Chunk_byte : Nat := 18
abbrev c_slices_Chunk_byte : AFn := a18
abbrev f_slices_Clone_byte : Nat := 19
abbrev c_slices_Clone_byte : AFn := a19
abbrev f_batch_wrong_1 : Nat := 20
abbrev c_batch_wrong_1 : AFn := a20
abbrev f_slices_ContainsFunc_bytes : Nat := 21
abbrev c_slices_ContainsFunc_bytes : AFn := a21
abbrev f_op_Right : Nat := 22
abbrev c_op_Right : AFn := a22
abbrev f_op_of : Nat := 23
abbrev c_op_of : AFn := a23
abbrev f_wire_Num : Nat := 24
abbrev c_wire_Num : AFn := a24
abbrev f_wire_Text : Nat := 25
abbrev c_wire_Text : AFn := a25
abbrev f_value_Put : Nat := 26
abbrev c_value_Put : AFn := a26
abbrev f_frag_Put : Nat := 27
abbrev c_frag_Put : AFn := a27
abbrev f_snap_Right : Nat := 28
abbrev c_snap_Right : AFn := a28
abbrev f_snap_nums : Nat := 29
abbrev c_snap_nums : AFn := a29
abbrev f_snap_head : Nat := 30
abbrev c_snap_head : AFn := a30
abbrev f_snap_put : Nat := 31
abbrev c_snap_put : AFn := a31
abbrev f_slices_Concat_byte : Nat := 32
abbrev c_slices_Concat_byte : AFn := a32
abbrev f_slices_Chunk_byte_1 : Nat := 33
abbrev c_slices_Chunk_byte_1 : AFn := a33
abbrev f_slices_IndexFunc_bytes : Nat := 34
abbrev c_slices_IndexFunc_bytes : AFn := a34
abbrev f_op_either : Nat := 35
abbrev c_op_either : AFn := a35
abbrev f_frag_Right : Nat := 36
abbrev c_frag_Right : AFn := a36
abbrev f_op_ID : Nat := 37
abbrev c_op_ID : AFn := a37
abbrev f_value_Right : Nat := 38
abbrev c_value_Right : AFn := a38
abbrev f_value_Same : Nat := 39
abbrev c_value_Same : AFn := a39
abbrev f_slices_AppendSeq_byte : Nat := 40
abbrev c_slices_AppendSeq_byte : AFn := a40
abbrev f_wire_groups : Nat := 41
abbrev c_wire_groups : AFn := a41
abbrev f_snap_fit : Nat := 42
abbrev c_snap_fit : AFn := a42
abbrev f_slices_ContainsFunc_Node : Nat := 43
abbrev c_slices_ContainsFunc_Node : AFn := a43
abbrev f_snap_Right_1 : Nat := 44
abbrev c_snap_Right_1 : AFn := a44
abbrev f_snap_fits : Nat := 45
abbrev c_snap_fits : AFn := a45
abbrev f_snap_nums_1 : Nat := 46
abbrev c_snap_nums_1 : AFn := a46
abbrev f_snap_first : Nat := 47
abbrev c_snap_first : AFn := a47
abbrev f_snap_last : Nat := 48
abbrev c_snap_last : AFn := a48
abbrev f_slices_Grow_byte : Nat := 49
abbrev c_slices_Grow_byte : AFn := a49
abbrev f_slices_ContainsFunc_Item : Nat := 50
abbrev c_slices_ContainsFunc_Item : AFn := a50
abbrev f_frag_Right_1 : Nat := 51
abbrev c_frag_Right_1 : AFn := a51
abbrev f_frag_fits : Nat := 52
abbrev c_frag_fits : AFn := a52
abbrev f_op_ID_1 : Nat := 53
abbrev c_op_ID_1 : AFn := a53
abbrev f_strings_ContainsFunc : Nat := 54
abbrev c_strings_ContainsFunc : AFn := a54
abbrev f_value_room_fits : Nat := 55
abbrev c_value_room_fits : AFn := a55
abbrev f_slices_EqualFunc_Value : Nat := 56
abbrev c_slices_EqualFunc_Value : AFn := a56
abbrev f_wire_groups_1 : Nat := 57
abbrev c_wire_groups_1 : AFn := a57
abbrev f_wire_plain : Nat := 58
abbrev c_wire_plain : AFn := a58
abbrev f_slices_ContainsFunc_field : Nat := 59
abbrev c_slices_ContainsFunc_field : AFn := a59
abbrev f_snap_fit_1 : Nat := 60
abbrev c_snap_fit_1 : AFn := a60
abbrev f_slices_IndexFunc_Node : Nat := 61
abbrev c_slices_IndexFunc_Node : AFn := a61
abbrev f_snap_fits_1 : Nat := 62
abbrev c_snap_fits_1 : AFn := a62
abbrev f_frag_Name : Nat := 63
abbrev c_frag_Name : AFn := a63
abbrev f_slices_ContainsFunc_int : Nat := 64
abbrev c_slices_ContainsFunc_int : AFn := a64
abbrev f_slices_IndexFunc_Item : Nat := 65
abbrev c_slices_IndexFunc_Item : AFn := a65
abbrev f_frag_within : Nat := 66
abbrev c_frag_within : AFn := a66
abbrev f_slices_ContainsFunc_string : Nat := 67
abbrev c_slices_ContainsFunc_string : AFn := a67
abbrev f_frag_fits_1 : Nat := 68
abbrev c_frag_fits_1 : AFn := a68
abbrev f_strings_IndexFunc : Nat := 69
abbrev c_strings_IndexFunc : AFn := a69
abbrev f_value_plain : Nat := 70
abbrev c_value_plain : AFn := a70
abbrev f_slices_ContainsFunc_Value : Nat := 71
abbrev c_slices_ContainsFunc_Value : AFn := a71
abbrev f_value_room_fits_1 : Nat := 72
abbrev c_value_room_fits_1 : AFn := a72
abbrev f_slices_IndexFunc_field : Nat := 73
abbrev c_slices_IndexFunc_field : AFn := a73
abbrev f_strings_Trim : Nat := 74
abbrev c_strings_Trim : AFn := a74
abbrev f_slices_IndexFunc_int : Nat := 75
abbrev c_slices_IndexFunc_int : AFn := a75
abbrev f_slices_IndexFunc_string : Nat := 76
abbrev c_slices_IndexFunc_string : AFn := a76
abbrev f_strings_indexFunc : Nat := 77
abbrev c_strings_indexFunc : AFn := a77
abbrev f_slices_IndexFunc_Value : Nat := 78
abbrev c_slices_IndexFunc_Value : AFn := a78
abbrev f_strings_trimLeftByte : Nat := 79
abbrev c_strings_trimLeftByte : AFn := a79
abbrev f_strings_trimRightByte : Nat := 80
abbrev c_strings_trimRightByte : AFn := a80
abbrev f_strings_makeASCIISet : Nat := 81
abbrev c_strings_makeASCIISet : AFn := a81
abbrev f_strings_trimLeftASCII : Nat := 82
abbrev c_strings_trimLeftASCII : AFn := a82
abbrev f_strings_trimRightASCII : Nat := 83
abbrev c_strings_trimRightASCII : AFn := a83
abbrev f_strings_trimLeftUnicode : Nat := 84
abbrev c_strings_trimLeftUnicode : AFn := a84
abbrev f_strings_trimRightUnicode : Nat := 85
abbrev c_strings_trimRightUnicode : AFn := a85
abbrev f_strings_asciiSet_contains : Nat := 86
abbrev c_strings_asciiSet_contains : AFn := a86
abbrev f_unicode_utf8_DecodeRuneInString : Nat := 87
abbrev c_unicode_utf8_DecodeRuneInString : AFn := a87
abbrev f_strings_ContainsRune : Nat := 88
abbrev c_strings_ContainsRune : AFn := a88
abbrev f_unicode_utf8_DecodeLastRuneInString : Nat := 89
abbrev c_unicode_utf8_DecodeLastRuneInString : AFn := a89
abbrev f_unicode_utf8_decodeRuneInStringSlow : Nat := 90
abbrev c_unicode_utf8_decodeRuneInStringSlow : AFn := a90
abbrev f_strings_IndexRune : Nat := 91
abbrev c_strings_IndexRune : AFn := a91
abbrev f_unicode_utf8_RuneStart : Nat := 92
abbrev c_unicode_utf8_RuneStart : AFn := a92
abbrev f_strings_IndexByte : Nat := 93
abbrev c_strings_IndexByte : AFn := a93
abbrev f_unicode_utf8_ValidRune : Nat := 94
abbrev c_unicode_utf8_ValidRune : AFn := a94
abbrev f_internal_bytealg_Cutover : Nat := 95
abbrev c_internal_bytealg_Cutover : AFn := a95
abbrev f_internal_stringslite_IndexByte : Nat := 97
abbrev c_internal_stringslite_IndexByte : AFn := a97
abbrev t_Config : Nat := 43
abbrev t_Entry : Nat := 48
abbrev t_Item : Nat := 28
abbrev t_Node : Nat := 52
abbrev t_Op : Nat := 31
abbrev t_State : Nat := 46
abbrev t_Value : Nat := 25
abbrev t_int : Nat := 3
abbrev t_int64 : Nat := 2
abbrev t_p_value_room : Nat := 112
abbrev t_s_s_uint8 : Nat := 38
abbrev t_s_uint8 : Nat := 22
abbrev t_snap_field : Nat := 99
abbrev t_snap_small : Nat := 104
abbrev t_string : Nat := 9
abbrev t_strings_asciiSet : Nat := 138
abbrev t_uint8 : Nat := 5
abbrev t_utf8_acceptRange : Nat := 149
abbrev t_value_room : Nat := 114
def prT (f : Nat) : Bool := Nat.beq f 19
def glT (g : Nat) : List DV := match Nat.beq g 0 with
  | true => [.i .u8 0, .i .u8 3, .i .u8 4, .i .u8 29, .i .u8 12, .i .u8 4]
  | false => []
def E : Env := ⟨fnT.get, glT, methOf Tryd.prog, prT⟩
theorem n_foremanlaw29_BoundGreatest : E.fn f_foremanlaw29_BoundGreatest = some a3 := by kernel_rfl
theorem n_bound_Long : E.fn f_bound_Long = some a4 := by kernel_rfl
theorem n_bound_MostLong : E.fn f_bound_MostLong = some a5 := by kernel_rfl
theorem n_foremanlaw29_awake : E.fn f_foremanlaw29_awake = some a6 := by kernel_rfl
theorem n_replay_Rows : E.fn f_replay_Rows = some a7 := by kernel_rfl
theorem n_batch_Long : E.fn f_batch_Long = some a8 := by kernel_rfl
theorem n_bound_Work : E.fn f_bound_Work = some a9 := by kernel_rfl
theorem n_bound_Most : E.fn f_bound_Most = some a10 := by kernel_rfl
theorem n_replay_rest : E.fn f_replay_rest = some a11 := by kernel_rfl
theorem n_batch_Cut : E.fn f_batch_Cut = some a12 := by kernel_rfl
theorem n_replay_ahead : E.fn f_replay_ahead = some a13 := by kernel_rfl
theorem n_batch_wrong : E.fn f_batch_wrong = some a14 := by kernel_rfl
theorem n_rec_Long : E.fn f_rec_Long = some a15 := by kernel_rfl
theorem n_op_Bytes : E.fn f_op_Bytes = some a16 := by kernel_rfl
theorem n_snap_Bytes : E.fn f_snap_Bytes = some a17 := by kernel_rfl
theorem n_slices_Chunk_byte : E.fn f_slices_Chunk_byte = some a18 := by kernel_rfl
theorem n_slices_Clone_byte : E.fn f_slices_Clone_byte = some a19 := by kernel_rfl
theorem n_batch_wrong_1 : E.fn f_batch_wrong_1 = some a20 := by kernel_rfl
theorem n_slices_ContainsFunc_bytes : E.fn f_slices_ContainsFunc_bytes = some a21 := by kernel_rfl
theorem n_op_Right : E.fn f_op_Right = some a22 := by kernel_rfl
theorem n_op_of : E.fn f_op_of = some a23 := by kernel_rfl
theorem n_wire_Num : E.fn f_wire_Num = some a24 := by kernel_rfl
theorem n_wire_Text : E.fn f_wire_Text = some a25 := by kernel_rfl
theorem n_value_Put : E.fn f_value_Put = some a26 := by kernel_rfl
theorem n_frag_Put : E.fn f_frag_Put = some a27 := by kernel_rfl
theorem n_snap_Right : E.fn f_snap_Right = some a28 := by kernel_rfl
theorem n_snap_nums : E.fn f_snap_nums = some a29 := by kernel_rfl
theorem n_snap_head : E.fn f_snap_head = some a30 := by kernel_rfl
theorem n_snap_put : E.fn f_snap_put = some a31 := by kernel_rfl
theorem n_slices_Concat_byte : E.fn f_slices_Concat_byte = some a32 := by kernel_rfl
theorem n_slices_Chunk_byte_1 : E.fn f_slices_Chunk_byte_1 = some a33 := by kernel_rfl
theorem n_slices_IndexFunc_bytes : E.fn f_slices_IndexFunc_bytes = some a34 := by kernel_rfl
theorem n_op_either : E.fn f_op_either = some a35 := by kernel_rfl
theorem n_frag_Right : E.fn f_frag_Right = some a36 := by kernel_rfl
theorem n_op_ID : E.fn f_op_ID = some a37 := by kernel_rfl
theorem n_value_Right : E.fn f_value_Right = some a38 := by kernel_rfl
theorem n_value_Same : E.fn f_value_Same = some a39 := by kernel_rfl
theorem n_slices_AppendSeq_byte : E.fn f_slices_AppendSeq_byte = some a40 := by kernel_rfl
theorem n_wire_groups : E.fn f_wire_groups = some a41 := by kernel_rfl
theorem n_snap_fit : E.fn f_snap_fit = some a42 := by kernel_rfl
theorem n_slices_ContainsFunc_Node : E.fn f_slices_ContainsFunc_Node = some a43 := by kernel_rfl
theorem n_snap_Right_1 : E.fn f_snap_Right_1 = some a44 := by kernel_rfl
theorem n_snap_fits : E.fn f_snap_fits = some a45 := by kernel_rfl
theorem n_snap_nums_1 : E.fn f_snap_nums_1 = some a46 := by kernel_rfl
theorem n_snap_first : E.fn f_snap_first = some a47 := by kernel_rfl
theorem n_snap_last : E.fn f_snap_last = some a48 := by kernel_rfl
theorem n_slices_Grow_byte : E.fn f_slices_Grow_byte = some a49 := by kernel_rfl
theorem n_slices_ContainsFunc_Item : E.fn f_slices_ContainsFunc_Item = some a50 := by kernel_rfl
theorem n_frag_Right_1 : E.fn f_frag_Right_1 = some a51 := by kernel_rfl
theorem n_frag_fits : E.fn f_frag_fits = some a52 := by kernel_rfl
theorem n_op_ID_1 : E.fn f_op_ID_1 = some a53 := by kernel_rfl
theorem n_strings_ContainsFunc : E.fn f_strings_ContainsFunc = some a54 := by kernel_rfl
theorem n_value_room_fits : E.fn f_value_room_fits = some a55 := by kernel_rfl
theorem n_slices_EqualFunc_Value : E.fn f_slices_EqualFunc_Value = some a56 := by kernel_rfl
theorem n_wire_groups_1 : E.fn f_wire_groups_1 = some a57 := by kernel_rfl
theorem n_wire_plain : E.fn f_wire_plain = some a58 := by kernel_rfl
theorem n_slices_ContainsFunc_field : E.fn f_slices_ContainsFunc_field = some a59 := by kernel_rfl
theorem n_snap_fit_1 : E.fn f_snap_fit_1 = some a60 := by kernel_rfl
theorem n_slices_IndexFunc_Node : E.fn f_slices_IndexFunc_Node = some a61 := by kernel_rfl
theorem n_snap_fits_1 : E.fn f_snap_fits_1 = some a62 := by kernel_rfl
theorem n_frag_Name : E.fn f_frag_Name = some a63 := by kernel_rfl
theorem n_slices_ContainsFunc_int : E.fn f_slices_ContainsFunc_int = some a64 := by kernel_rfl
theorem n_slices_IndexFunc_Item : E.fn f_slices_IndexFunc_Item = some a65 := by kernel_rfl
theorem n_frag_within : E.fn f_frag_within = some a66 := by kernel_rfl
theorem n_slices_ContainsFunc_string : E.fn f_slices_ContainsFunc_string = some a67 := by kernel_rfl
theorem n_frag_fits_1 : E.fn f_frag_fits_1 = some a68 := by kernel_rfl
theorem n_strings_IndexFunc : E.fn f_strings_IndexFunc = some a69 := by kernel_rfl
theorem n_value_plain : E.fn f_value_plain = some a70 := by kernel_rfl
theorem n_slices_ContainsFunc_Value : E.fn f_slices_ContainsFunc_Value = some a71 := by kernel_rfl
theorem n_value_room_fits_1 : E.fn f_value_room_fits_1 = some a72 := by kernel_rfl
theorem n_slices_IndexFunc_field : E.fn f_slices_IndexFunc_field = some a73 := by kernel_rfl
theorem n_strings_Trim : E.fn f_strings_Trim = some a74 := by kernel_rfl
theorem n_slices_IndexFunc_int : E.fn f_slices_IndexFunc_int = some a75 := by kernel_rfl
theorem n_slices_IndexFunc_string : E.fn f_slices_IndexFunc_string = some a76 := by kernel_rfl
theorem n_strings_indexFunc : E.fn f_strings_indexFunc = some a77 := by kernel_rfl
theorem n_slices_IndexFunc_Value : E.fn f_slices_IndexFunc_Value = some a78 := by kernel_rfl
theorem n_strings_trimLeftByte : E.fn f_strings_trimLeftByte = some a79 := by kernel_rfl
theorem n_strings_trimRightByte : E.fn f_strings_trimRightByte = some a80 := by kernel_rfl
theorem n_strings_makeASCIISet : E.fn f_strings_makeASCIISet = some a81 := by kernel_rfl
theorem n_strings_trimLeftASCII : E.fn f_strings_trimLeftASCII = some a82 := by kernel_rfl
theorem n_strings_trimRightASCII : E.fn f_strings_trimRightASCII = some a83 := by kernel_rfl
theorem n_strings_trimLeftUnicode : E.fn f_strings_trimLeftUnicode = some a84 := by kernel_rfl
theorem n_strings_trimRightUnicode : E.fn f_strings_trimRightUnicode = some a85 := by kernel_rfl
theorem n_strings_asciiSet_contains : E.fn f_strings_asciiSet_contains = some a86 := by kernel_rfl
theorem n_unicode_utf8_DecodeRuneInString : E.fn f_unicode_utf8_DecodeRuneInString = some a87 := by kernel_rfl
theorem n_strings_ContainsRune : E.fn f_strings_ContainsRune = some a88 := by kernel_rfl
theorem n_unicode_utf8_DecodeLastRuneInString : E.fn f_unicode_utf8_DecodeLastRuneInString = some a89 := by kernel_rfl
theorem n_unicode_utf8_decodeRuneInStringSlow : E.fn f_unicode_utf8_decodeRuneInStringSlow = some a90 := by kernel_rfl
theorem n_strings_IndexRune : E.fn f_strings_IndexRune = some a91 := by kernel_rfl
theorem n_unicode_utf8_RuneStart : E.fn f_unicode_utf8_RuneStart = some a92 := by kernel_rfl
theorem n_strings_IndexByte : E.fn f_strings_IndexByte = some a93 := by kernel_rfl
theorem n_unicode_utf8_ValidRune : E.fn f_unicode_utf8_ValidRune = some a94 := by kernel_rfl
theorem n_internal_bytealg_Cutover : E.fn f_internal_bytealg_Cutover = some a95 := by kernel_rfl
theorem n_internal_stringslite_IndexByte : E.fn f_internal_stringslite_IndexByte = some a97 := by kernel_rfl
end
end Go.Proofs.YtjacnbabnpgpaaaDoor

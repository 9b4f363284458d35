/- The executor's view of the seat's program; the listed variables; the calls that are known beforehand. -/
import Derived.Test.YtmkdjmoifkffgaaGreatDoorExL
import Derived.Test.YtmkdjmoifkffgaaGreatDoorRows
import Derived.KernelRfl
namespace Go.Proofs.YtmkdjmoifkffgaaGreatDoor
open Go Go.Ex
noncomputable def extT (f : FuncId) : Option ExtK :=
  bif Nat.beq f 154 then some (.same) else
  bif Nat.beq f 155 then some (.noZero) else
  bif Nat.beq f 103 then some (.pure Extern.BytealgIndex.index) else
  bif Nat.beq f 156 then some (.pure Extern.BytealgIndexByte.indexByte) else
  bif Nat.beq f 199 then some (.pure Extern.BytealgCompare.compare) else
  bif Nat.beq f 216 then some (.pure Extern.MathFloatBits.float64bits) else
  bif Nat.beq f 278 then some (.pure Extern.MathFloatBits.float64bits) else
  bif Nat.beq f 214 then some (.pure Extern.MathFloatBits.float64frombits) else
  bif Nat.beq f 338 then some (.pure Extern.MathFloatBits.float64frombits) else
  bif Nat.beq f 277 then some (.pure Extern.MathFloatBits.float32bits) else
  bif Nat.beq f 332 then some (.pure Extern.MathFloatBits.float32frombits) else none
noncomputable def TT : Tab := triTab Tryz.prog extT 19
noncomputable def tabs : List (Nat × DataW Unit) := [(1, Rows.laid_unicode_utf8_first), (2, Rows.laid_unicode_utf8_acceptRanges), (4, Rows.laid_chisel_time_lengths), (5, Rows.laid_internal_strconv_optimize), (8, Rows.laid_unicode_CaseRanges), (9, Rows.laid_internal_strconv_uint64pow10), (10, Rows.laid_internal_strconv_float32info), (11, Rows.laid_internal_strconv_float64info), (12, Rows.laid_internal_strconv_pow10Tab), (13, Rows.laid_internal_strconv_leftcheats), (14, Rows.laid_internal_strconv_float32pow10), (15, Rows.laid_internal_strconv_powtab), (16, Rows.laid_internal_strconv_float64pow10), (17, Rows.laid_math_bits_deBruijn32tab), (18, Rows.laid_math_bits_deBruijn64tab)]
def names : List (String × Nat) := [("unicode/utf8.first", 1), ("unicode/utf8.acceptRanges", 2), ("chisel/time.lengths", 4), ("internal/strconv.optimize", 5), ("unicode.CaseRanges", 8), ("internal/strconv.uint64pow10", 9), ("internal/strconv.float32info", 10), ("internal/strconv.float64info", 11), ("internal/strconv.pow10Tab", 12), ("internal/strconv.leftcheats", 13), ("internal/strconv.float32pow10", 14), ("internal/strconv.powtab", 15), ("internal/strconv.float64pow10", 16), ("math/bits.deBruijn32tab", 17), ("math/bits.deBruijn64tab", 18)]
noncomputable def K0 : FuncId → List (List AV × AV) := fun _ => []
noncomputable def ka0 : List AV := [(.string ⟨⟨[103, 101]⟩⟩), (.agg [.int .i64 4, (.string ⟨⟨[50, 46, 53]⟩⟩)]), (.agg [.int .i64 4, (.string ⟨⟨[48]⟩⟩)])]
noncomputable def kv0 : AV := .tuple [.bool true, .int .i64 0]
noncomputable def ka1 : List AV := [(.string ⟨⟨[108, 101]⟩⟩), (.agg [.int .i64 4, (.string ⟨⟨[50, 46, 53]⟩⟩)]), (.agg [.int .i64 4, (.string ⟨⟨[50, 46, 53]⟩⟩)])]
noncomputable def kv1 : AV := .tuple [.bool true, .int .i64 0]
noncomputable def ka2 : List AV := [(.string ⟨⟨[103, 101]⟩⟩), (.agg [.int .i64 4, (.string ⟨⟨[50, 46, 53, 49]⟩⟩)]), (.agg [.int .i64 4, (.string ⟨⟨[48]⟩⟩)])]
noncomputable def kv2 : AV := .tuple [.bool true, .int .i64 0]
noncomputable def ka3 : List AV := [(.string ⟨⟨[108, 101]⟩⟩), (.agg [.int .i64 4, (.string ⟨⟨[50, 46, 53, 49]⟩⟩)]), (.agg [.int .i64 4, (.string ⟨⟨[50, 46, 53]⟩⟩)])]
noncomputable def kv3 : AV := .tuple [.bool false, .int .i64 0]
noncomputable def ka4 : List AV := [(.string ⟨⟨[103, 101]⟩⟩), (.agg [.int .i64 4, (.string ⟨⟨[45, 49]⟩⟩)]), (.agg [.int .i64 4, (.string ⟨⟨[48]⟩⟩)])]
noncomputable def kv4 : AV := .tuple [.bool false, .int .i64 0]
noncomputable def ka5 : List AV := [(.agg [.int .i64 1, (.string ⟨⟨[48]⟩⟩)]), .int .i64 4]
noncomputable def kv5 : AV := .tuple [(.agg [.int .i64 4, (.string ⟨⟨[48]⟩⟩)]), .int .i64 0]
noncomputable def ka6 : List AV := [(.agg [.int .i64 1, (.string ⟨⟨[50, 46, 53, 48]⟩⟩)]), .int .i64 4]
noncomputable def kv6 : AV := .tuple [(.agg [.int .i64 4, (.string ⟨⟨[50, 46, 53]⟩⟩)]), .int .i64 0]
noncomputable def ka7 : List AV := [(.agg [.int .i64 1, (.string ⟨⟨[50, 46, 53]⟩⟩)]), .int .i64 4]
noncomputable def kv7 : AV := .tuple [(.agg [.int .i64 4, (.string ⟨⟨[50, 46, 53]⟩⟩)]), .int .i64 0]
noncomputable def ka8 : List AV := [(.agg [.int .i64 1, (.string ⟨⟨[50, 46, 53, 49]⟩⟩)]), .int .i64 4]
noncomputable def kv8 : AV := .tuple [(.agg [.int .i64 4, (.string ⟨⟨[50, 46, 53, 49]⟩⟩)]), .int .i64 0]
noncomputable def ka9 : List AV := [(.agg [.int .i64 1, (.string ⟨⟨[45, 49]⟩⟩)]), .int .i64 4]
noncomputable def kv9 : AV := .tuple [(.agg [.int .i64 4, (.string ⟨⟨[45, 49]⟩⟩)]), .int .i64 0]
noncomputable def ka10 : List AV := [(.agg [.int .i64 1, (.string ⟨⟨[49]⟩⟩)]), .int .i64 5]
noncomputable def kv10 : AV := .tuple [(.agg [.int .i64 5, (.string ⟨⟨[49]⟩⟩)]), .int .i64 0]
noncomputable def ka11 : List AV := [(.agg [.int .i64 1, (.string ⟨⟨[49, 101, 51]⟩⟩)]), .int .i64 5]
noncomputable def kv11 : AV := .tuple [(.agg [.int .i64 5, (.string ⟨⟨[49, 48, 48, 48]⟩⟩)]), .int .i64 0]
noncomputable def ka12 : List AV := [(.agg [.int .i64 1, (.string ⟨⟨[49, 48, 48, 48]⟩⟩)]), .int .i64 5]
noncomputable def kv12 : AV := .tuple [(.agg [.int .i64 5, (.string ⟨⟨[49, 48, 48, 48]⟩⟩)]), .int .i64 0]
noncomputable def ka13 : List AV := [(.agg [.int .i64 1, (.string ⟨⟨[78, 97, 78]⟩⟩)]), .int .i64 5]
noncomputable def kv13 : AV := .tuple [(.agg [.int .i64 5, (.string ⟨⟨[78, 97, 78]⟩⟩)]), .int .i64 0]
noncomputable def K1 (f : FuncId) : List (List AV × AV) :=
  bif Nat.beq f 7 then [([], .bool true)] else bif Nat.beq f 46 then [(ka0, kv0), (ka1, kv1), (ka2, kv2), (ka3, kv3), (ka4, kv4)] else bif Nat.beq f 35 then [(ka5, kv5), (ka6, kv6), (ka7, kv7), (ka8, kv8), (ka9, kv9), (ka10, kv10), (ka11, kv11), (ka12, kv12), (ka13, kv13)] else []
end Go.Proofs.YtmkdjmoifkffgaaGreatDoor

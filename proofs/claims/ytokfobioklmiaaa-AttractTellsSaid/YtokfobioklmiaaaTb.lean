/- The types of the program that are asked. -/
import Derived.Test.YtokfobioklmiaaaProg
import Derived.Test.YtokfobioklmiaaaVM
namespace Go.V
open Go Go.Proofs
def tb : List TRow := [
  ⟨2, Go.TypeDesc.int Go.IntKind.i64, 1, 8, (.int .i64 0)⟩,
  ⟨3, Go.TypeDesc.int Go.IntKind.i64, 1, 8, (.int .i64 0)⟩,
  ⟨4, Go.TypeDesc.bool, 1, 1, (.bool false)⟩,
  ⟨5, Go.TypeDesc.int Go.IntKind.u8, 1, 1, (.int .u8 0)⟩,
  ⟨7, Go.TypeDesc.struct #[{ name := "x", type := 2, offset := 0, embedded := false, tag := "", pkgPath := "runtime", byteOffset := 0 }, { name := "y", type := 3, offset := 1, embedded := false, tag := "", pkgPath := "runtime", byteOffset := 8 }, { name := "signed", type := 4, offset := 2, embedded := false, tag := "", pkgPath := "runtime", byteOffset := 16 }, { name := "code", type := 6, offset := 3, embedded := false, tag := "", pkgPath := "runtime", byteOffset := 17 }], 4, 24, (.agg #[(.int .i64 0), (.int .i64 0), (.bool false), (.int .u8 0)])⟩,
  ⟨9, Go.TypeDesc.string, 1, 16, (.string ⟨#[]⟩)⟩,
  ⟨12, Go.TypeDesc.int Go.IntKind.u64, 1, 8, (.int .u64 0)⟩,
  ⟨13, Go.TypeDesc.struct #[{ name := "msg", type := 9, offset := 0, embedded := false, tag := "", pkgPath := "runtime", byteOffset := 0 }, { name := "addr", type := 12, offset := 1, embedded := false, tag := "", pkgPath := "runtime", byteOffset := 16 }], 2, 24, (.agg #[(.string ⟨#[]⟩), (.int .u64 0)])⟩,
  ⟨15, Go.TypeDesc.pointer 86, 1, 8, (.pointer none)⟩,
  ⟨16, Go.TypeDesc.pointer 89, 1, 8, (.pointer none)⟩,
  ⟨17, Go.TypeDesc.pointer 99, 1, 8, (.pointer none)⟩,
  ⟨18, Go.TypeDesc.struct #[{ name := "typ", type := 17, offset := 0, embedded := false, tag := "", pkgPath := "internal/runtime/maps", byteOffset := 0 }], 1, 8, (.agg #[(.pointer none)])⟩,
  ⟨21, Go.TypeDesc.int Go.IntKind.i32, 1, 4, (.int .i32 0)⟩,
  ⟨22, Go.TypeDesc.slice 4, 1, 24, (.slice none 0 0)⟩,
  ⟨23, Go.TypeDesc.slice 3, 1, 24, (.slice none 0 0)⟩,
  ⟨24, Go.TypeDesc.slice 69, 1, 24, (.slice none 0 0)⟩,
  ⟨25, Go.TypeDesc.struct #[{ name := "Props", type := 3, offset := 0, embedded := false, tag := "", pkgPath := "", byteOffset := 0 }, { name := "Accept", type := 22, offset := 1, embedded := false, tag := "", pkgPath := "", byteOffset := 8 }, { name := "Guard", type := 23, offset := 2, embedded := false, tag := "", pkgPath := "", byteOffset := 32 }, { name := "Nodes", type := 24, offset := 3, embedded := false, tag := "", pkgPath := "", byteOffset := 56 }], 4, 80, (.agg #[(.int .i64 0), (.slice none 0 0), (.slice none 0 0), (.slice none 0 0)])⟩,
  ⟨26, Go.TypeDesc.struct #[{ name := "Props", type := 3, offset := 0, embedded := false, tag := "", pkgPath := "", byteOffset := 0 }, { name := "Accept", type := 22, offset := 1, embedded := false, tag := "", pkgPath := "", byteOffset := 8 }, { name := "Guard", type := 23, offset := 2, embedded := false, tag := "", pkgPath := "", byteOffset := 32 }, { name := "Nodes", type := 24, offset := 3, embedded := false, tag := "", pkgPath := "", byteOffset := 56 }], 4, 80, (.agg #[(.int .i64 0), (.slice none 0 0), (.slice none 0 0), (.slice none 0 0)])⟩,
  ⟨27, Go.TypeDesc.int Go.IntKind.u8, 1, 1, (.int .u8 0)⟩,
  ⟨28, Go.TypeDesc.struct #[{ name := "Env", type := 27, offset := 0, embedded := false, tag := "", pkgPath := "", byteOffset := 0 }, { name := "Sys", type := 27, offset := 1, embedded := false, tag := "", pkgPath := "", byteOffset := 1 }], 2, 2, (.agg #[(.int .u8 0), (.int .u8 0)])⟩,
  ⟨29, Go.TypeDesc.struct #[{ name := "Env", type := 27, offset := 0, embedded := false, tag := "", pkgPath := "", byteOffset := 0 }, { name := "Sys", type := 27, offset := 1, embedded := false, tag := "", pkgPath := "", byteOffset := 1 }], 2, 2, (.agg #[(.int .u8 0), (.int .u8 0)])⟩,
  ⟨32, Go.TypeDesc.int Go.IntKind.i64, 1, 8, (.int .i64 0)⟩,
  ⟨40, Go.TypeDesc.slice 23, 1, 24, (.slice none 0 0)⟩,
  ⟨54, Go.TypeDesc.slice 29, 1, 24, (.slice none 0 0)⟩,
  ⟨57, Go.TypeDesc.slice 40, 1, 24, (.slice none 0 0)⟩,
  ⟨62, Go.TypeDesc.slice 27, 1, 24, (.slice none 0 0)⟩,
  ⟨68, Go.TypeDesc.struct #[{ name := "P", type := 3, offset := 0, embedded := false, tag := "", pkgPath := "", byteOffset := 0 }, { name := "Lo", type := 3, offset := 1, embedded := false, tag := "", pkgPath := "", byteOffset := 8 }, { name := "Hi", type := 3, offset := 2, embedded := false, tag := "", pkgPath := "", byteOffset := 16 }], 3, 24, (.agg #[(.int .i64 0), (.int .i64 0), (.int .i64 0)])⟩,
  ⟨69, Go.TypeDesc.struct #[{ name := "P", type := 3, offset := 0, embedded := false, tag := "", pkgPath := "", byteOffset := 0 }, { name := "Lo", type := 3, offset := 1, embedded := false, tag := "", pkgPath := "", byteOffset := 8 }, { name := "Hi", type := 3, offset := 2, embedded := false, tag := "", pkgPath := "", byteOffset := 16 }], 3, 24, (.agg #[(.int .i64 0), (.int .i64 0), (.int .i64 0)])⟩,
  ⟨71, Go.TypeDesc.map 69 4, 1, 8, (.map none)⟩,
  ⟨85, Go.TypeDesc.struct #[{ name := "_interface", type := 17, offset := 0, embedded := false, tag := "", pkgPath := "runtime", byteOffset := 0 }, { name := "concrete", type := 17, offset := 1, embedded := false, tag := "", pkgPath := "runtime", byteOffset := 8 }, { name := "asserted", type := 17, offset := 2, embedded := false, tag := "", pkgPath := "runtime", byteOffset := 16 }, { name := "missingMethod", type := 9, offset := 3, embedded := false, tag := "", pkgPath := "runtime", byteOffset := 24 }], 4, 40, (.agg #[(.pointer none), (.pointer none), (.pointer none), (.string ⟨#[]⟩)])⟩,
  ⟨87, Go.TypeDesc.array 0 16, 0, 0, (.agg #[])⟩,
  ⟨88, Go.TypeDesc.struct #[{ name := "_", type := 87, offset := 0, embedded := false, tag := "", pkgPath := "runtime", byteOffset := 0 }], 0, 0, (.agg #[])⟩,
  ⟨91, Go.TypeDesc.int Go.IntKind.u32, 1, 4, (.int .u32 0)⟩,
  ⟨95, Go.TypeDesc.pointer 5, 1, 8, (.pointer none)⟩,
  ⟨98, Go.TypeDesc.struct #[{ name := "Size_", type := 12, offset := 0, embedded := false, tag := "", pkgPath := "", byteOffset := 0 }, { name := "PtrBytes", type := 12, offset := 1, embedded := false, tag := "", pkgPath := "", byteOffset := 8 }, { name := "Hash", type := 91, offset := 2, embedded := false, tag := "", pkgPath := "", byteOffset := 16 }, { name := "TFlag", type := 92, offset := 3, embedded := false, tag := "", pkgPath := "", byteOffset := 20 }, { name := "Align_", type := 5, offset := 4, embedded := false, tag := "", pkgPath := "", byteOffset := 21 }, { name := "FieldAlign_", type := 5, offset := 5, embedded := false, tag := "", pkgPath := "", byteOffset := 22 }, { name := "Kind_", type := 93, offset := 6, embedded := false, tag := "", pkgPath := "", byteOffset := 23 }, { name := "Equal", type := 94, offset := 7, embedded := false, tag := "", pkgPath := "", byteOffset := 24 }, { name := "GCData", type := 95, offset := 8, embedded := false, tag := "", pkgPath := "", byteOffset := 32 }, { name := "Str", type := 96, offset := 9, embedded := false, tag := "", pkgPath := "", byteOffset := 40 }, { name := "PtrToThis", type := 97, offset := 10, embedded := false, tag := "", pkgPath := "", byteOffset := 44 }], 11, 48, (.agg #[(.int .u64 0), (.int .u64 0), (.int .u32 0), (.int .u8 0), (.int .u8 0), (.int .u8 0), (.int .u8 0), .nilFunc, (.pointer none), (.int .i32 0), (.int .i32 0)])⟩]
set_option maxRecDepth 100000 in
theorem tbok : TbOk Try.prog tb := ⟨⟨by kernel_rfl, by kernel_rfl⟩, ⟨by kernel_rfl, by kernel_rfl⟩, ⟨by kernel_rfl, by kernel_rfl⟩, ⟨by kernel_rfl, by kernel_rfl⟩, ⟨by kernel_rfl, by kernel_rfl⟩, ⟨by kernel_rfl, by kernel_rfl⟩, ⟨by kernel_rfl, by kernel_rfl⟩, ⟨by kernel_rfl, by kernel_rfl⟩, ⟨by kernel_rfl, by kernel_rfl⟩, ⟨by kernel_rfl, by kernel_rfl⟩, ⟨by kernel_rfl, by kernel_rfl⟩, ⟨by kernel_rfl, by kernel_rfl⟩, ⟨by kernel_rfl, by kernel_rfl⟩, ⟨by kernel_rfl, by kernel_rfl⟩, ⟨by kernel_rfl, by kernel_rfl⟩, ⟨by kernel_rfl, by kernel_rfl⟩, ⟨by kernel_rfl, by kernel_rfl⟩, ⟨by kernel_rfl, by kernel_rfl⟩, ⟨by kernel_rfl, by kernel_rfl⟩, ⟨by kernel_rfl, by kernel_rfl⟩, ⟨by kernel_rfl, by kernel_rfl⟩, ⟨by kernel_rfl, by kernel_rfl⟩, ⟨by kernel_rfl, by kernel_rfl⟩, ⟨by kernel_rfl, by kernel_rfl⟩, ⟨by kernel_rfl, by kernel_rfl⟩, ⟨by kernel_rfl, by kernel_rfl⟩, ⟨by kernel_rfl, by kernel_rfl⟩, ⟨by kernel_rfl, by kernel_rfl⟩, ⟨by kernel_rfl, by kernel_rfl⟩, ⟨by kernel_rfl, by kernel_rfl⟩, ⟨by kernel_rfl, by kernel_rfl⟩, ⟨by kernel_rfl, by kernel_rfl⟩, ⟨by kernel_rfl, by kernel_rfl⟩, ⟨by kernel_rfl, by kernel_rfl⟩, ⟨by kernel_rfl, by kernel_rfl⟩, trivial⟩
end Go.V

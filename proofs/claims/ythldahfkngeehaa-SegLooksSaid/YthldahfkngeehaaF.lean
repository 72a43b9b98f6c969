/- Part of the proof of a law of this seat: the texts Tys L1 Bn S1 S2 S3 S4 S5a S5 S6 S7 S8 S9 S10 S11 S12 S13 S14 Lay1 S15, in this order. -/
import Derived.Test.YthldahfkngeehaaProg
import Derived.KernelRfl
import Derived.Test.YthldahfkngeehaaE
import Derived.Test.YthldahfkngeehaaC
import Derived.Shelf.SlSortCmp.NoneTotal
import Derived.Shelf.SlGeneric
namespace Go.Proofs
open Go Go.Av
theorem tys :
    tyI Try.prog 1 = some { size := 1, bytes := 8, zero := some (.v (.nilFunc)) } ∧
    tyI Try.prog 2 = some { size := 1, bytes := 8, zero := some (.v (.int .i64 0)) } ∧
    tyI Try.prog 3 = some { size := 1, bytes := 8, zero := some (.v (.int .i64 0)) } ∧
    tyI Try.prog 4 = some { size := 1, bytes := 1, zero := some (.v (.bool false)) } ∧
    tyI Try.prog 5 = some { size := 1, bytes := 1, zero := some (.v (.int .u8 0)) } ∧
    tyI Try.prog 6 = some { size := 1, bytes := 1, zero := some (.v (.int .u8 0)) } ∧
    tyI Try.prog 7 = some { size := 4, bytes := 24, zero := some (.agg [.v (.int .i64 0), .v (.int .i64 0), .v (.bool false), .v (.int .u8 0)]) } ∧
    tyI Try.prog 8 = some { size := 4, bytes := 24, zero := some (.agg [.v (.int .i64 0), .v (.int .i64 0), .v (.bool false), .v (.int .u8 0)]) } ∧
    tyI Try.prog 9 = some { size := 1, bytes := 16, zero := some (.v (.string ⟨#[]⟩)) } ∧
    tyI Try.prog 10 = some { size := 1, bytes := 16, zero := some (.v (.string ⟨#[]⟩)) } ∧
    tyI Try.prog 11 = some { size := 1, bytes := 16, zero := some (.v (.string ⟨#[]⟩)) } ∧
    tyI Try.prog 12 = some { size := 1, bytes := 8, zero := some (.v (.int .u64 0)) } ∧
    tyI Try.prog 13 = some { size := 2, bytes := 24, zero := some (.agg [.v (.string ⟨#[]⟩), .v (.int .u64 0)]) } ∧
    tyI Try.prog 14 = some { size := 2, bytes := 24, zero := some (.agg [.v (.string ⟨#[]⟩), .v (.int .u64 0)]) } ∧
    tyI Try.prog 15 = some { size := 1, bytes := 8, zero := some (.v (.pointer none)) } ∧
    tyI Try.prog 16 = some { size := 1, bytes := 8, zero := some (.v (.pointer none)) } ∧
    tyI Try.prog 17 = some { size := 1, bytes := 8, zero := some (.v (.pointer none)) } ∧
    tyI Try.prog 18 = some { size := 1, bytes := 8, zero := some (.agg [.v (.pointer none)]) } ∧
    tyI Try.prog 19 = some { size := 1, bytes := 8, zero := some (.agg [.v (.pointer none)]) } ∧
    tyI Try.prog 20 = some { size := 1, bytes := 16, zero := some (.v (.nilIface)) } ∧
    tyI Try.prog 21 = some { size := 1, bytes := 4, zero := some (.v (.int .i32 0)) } ∧
    tyI Try.prog 22 = some { size := 1, bytes := 24, zero := some (.v (.slice none 0 0)) } ∧
    tyI Try.prog 23 = some { size := 1, bytes := 24, zero := some (.v (.slice none 0 0)) } ∧
    tyI Try.prog 24 = some { size := 1, bytes := 8, zero := some (.v (.nilFunc)) } ∧
    tyI Try.prog 25 = some { size := 1, bytes := 8, zero := some (.v (.nilFunc)) } ∧
    tyI Try.prog 26 = some { size := 1, bytes := 8, zero := some (.v (.nilFunc)) } ∧
    tyI Try.prog 27 = some { size := 1, bytes := 8, zero := some (.v (.pointer none)) } ∧
    tyI Try.prog 28 = some { size := 1, bytes := 8, zero := some (.v (.int .i64 0)) } ∧
    tyI Try.prog 30 = some { size := 1, bytes := 8, zero := some (.v (.nilFunc)) } ∧
    tyI Try.prog 32 = some { size := 1, bytes := 8, zero := some (.v (.nilFunc)) } ∧
    tyI Try.prog 33 = some { size := 1, bytes := 8, zero := some (.v (.nilFunc)) } ∧
    tyI Try.prog 34 = some { size := 1, bytes := 8, zero := some (.v (.nilFunc)) } ∧
    tyI Try.prog 35 = some { size := 1, bytes := 8, zero := some (.v (.nilFunc)) } ∧
    tyI Try.prog 36 = some { size := 1, bytes := 8, zero := some (.v (.nilFunc)) } ∧
    tyI Try.prog 37 = some { size := 4, bytes := 64, zero := some (.agg [.v (.string ⟨#[]⟩), .v (.string ⟨#[]⟩), .v (.string ⟨#[]⟩), .v (.string ⟨#[]⟩)]) } ∧
    tyI Try.prog 38 = some { size := 5, bytes := 72, zero := some (.agg [.v (.int .i64 0), .v (.string ⟨#[]⟩), .v (.string ⟨#[]⟩), .v (.string ⟨#[]⟩), .v (.string ⟨#[]⟩)]) } ∧
    tyI Try.prog 39 = some { size := 5, bytes := 72, zero := some (.agg [.v (.int .i64 0), .v (.string ⟨#[]⟩), .v (.string ⟨#[]⟩), .v (.string ⟨#[]⟩), .v (.string ⟨#[]⟩)]) } ∧
    tyI Try.prog 40 = some { size := 6, bytes := 80, zero := some (.agg [.v (.int .i64 0), .v (.string ⟨#[]⟩), .v (.string ⟨#[]⟩), .v (.string ⟨#[]⟩), .v (.string ⟨#[]⟩), .v (.int .i64 0)]) } ∧
    tyI Try.prog 41 = some { size := 6, bytes := 80, zero := some (.agg [.v (.int .i64 0), .v (.string ⟨#[]⟩), .v (.string ⟨#[]⟩), .v (.string ⟨#[]⟩), .v (.string ⟨#[]⟩), .v (.int .i64 0)]) } ∧
    tyI Try.prog 42 = some { size := 1, bytes := 8, zero := some (.v (.nilFunc)) } ∧
    tyI Try.prog 43 = some { size := 4, bytes := 32, zero := some (.agg [.v (.int .i64 0), .v (.int .i64 0), .v (.int .i64 0), .v (.int .i64 0)]) } ∧
    tyI Try.prog 44 = some { size := 4, bytes := 32, zero := some (.agg [.v (.int .i64 0), .v (.int .i64 0), .v (.int .i64 0), .v (.int .i64 0)]) } ∧
    tyI Try.prog 46 = some { size := 1, bytes := 8, zero := some (.v (.nilFunc)) } ∧
    tyI Try.prog 47 = some { size := 1, bytes := 8, zero := some (.v (.nilFunc)) } ∧
    tyI Try.prog 48 = some { size := 1, bytes := 8, zero := some (.v (.nilFunc)) } ∧
    tyI Try.prog 49 = some { size := 1, bytes := 24, zero := some (.v (.slice none 0 0)) } ∧
    tyI Try.prog 50 = some { size := 1, bytes := 8, zero := some (.v (.nilFunc)) } ∧
    tyI Try.prog 51 = some { size := 1, bytes := 8, zero := some (.v (.nilFunc)) } ∧
    tyI Try.prog 52 = some { size := 1, bytes := 8, zero := some (.v (.nilFunc)) } ∧
    tyI Try.prog 53 = some { size := 4, bytes := 4, zero := some (.agg [.v (.bool false), .v (.bool false), .v (.bool false), .v (.bool false)]) } ∧
    tyI Try.prog 54 = some { size := 14, bytes := 88, zero := some (.agg [.v (.int .i64 0), .v (.int .i64 0), .v (.bool false), .v (.bool false), .v (.bool false), .v (.bool false), .v (.bool false), .v (.bool false), .v (.bool false), .v (.bool false), .v (.string ⟨#[]⟩), .v (.string ⟨#[]⟩), .v (.string ⟨#[]⟩), .v (.string ⟨#[]⟩)]) } ∧
    tyI Try.prog 55 = some { size := 14, bytes := 88, zero := some (.agg [.v (.int .i64 0), .v (.int .i64 0), .v (.bool false), .v (.bool false), .v (.bool false), .v (.bool false), .v (.bool false), .v (.bool false), .v (.bool false), .v (.bool false), .v (.string ⟨#[]⟩), .v (.string ⟨#[]⟩), .v (.string ⟨#[]⟩), .v (.string ⟨#[]⟩)]) } ∧
    tyI Try.prog 56 = some { size := 1, bytes := 8, zero := some (.v (.nilFunc)) } ∧
    tyI Try.prog 57 = some { size := 1, bytes := 8, zero := some (.v (.nilFunc)) } ∧
    tyI Try.prog 58 = some { size := 1, bytes := 8, zero := some (.v (.nilFunc)) } ∧
    tyI Try.prog 59 = some { size := 1, bytes := 8, zero := some (.v (.nilFunc)) } ∧
    tyI Try.prog 60 = some { size := 1, bytes := 8, zero := some (.v (.nilFunc)) } ∧
    tyI Try.prog 61 = some { size := 1, bytes := 8, zero := some (.v (.nilFunc)) } ∧
    tyI Try.prog 62 = some { size := 1, bytes := 8, zero := some (.v (.nilFunc)) } ∧
    tyI Try.prog 63 = some { size := 1, bytes := 8, zero := some (.v (.nilFunc)) } ∧
    tyI Try.prog 64 = some { size := 1, bytes := 8, zero := some (.v (.nilFunc)) } ∧
    tyI Try.prog 65 = some { size := 9, bytes := 104, zero := some (.agg [.v (.int .i64 0), .v (.string ⟨#[]⟩), .v (.string ⟨#[]⟩), .v (.string ⟨#[]⟩), .v (.string ⟨#[]⟩), .v (.int .i64 0), .v (.int .i64 0), .v (.int .i64 0), .v (.int .i64 0)]) } ∧
    tyI Try.prog 66 = some { size := 9, bytes := 104, zero := some (.agg [.v (.int .i64 0), .v (.string ⟨#[]⟩), .v (.string ⟨#[]⟩), .v (.string ⟨#[]⟩), .v (.string ⟨#[]⟩), .v (.int .i64 0), .v (.int .i64 0), .v (.int .i64 0), .v (.int .i64 0)]) } ∧
    tyI Try.prog 67 = some { size := 1, bytes := 8, zero := some (.v (.nilFunc)) } ∧
    tyI Try.prog 68 = some { size := 1, bytes := 8, zero := some (.v (.nilFunc)) } ∧
    tyI Try.prog 69 = some { size := 1, bytes := 8, zero := some (.v (.nilFunc)) } ∧
    tyI Try.prog 70 = some { size := 1, bytes := 8, zero := some (.v (.nilFunc)) } ∧
    tyI Try.prog 71 = some { size := 1, bytes := 8, zero := some (.v (.nilFunc)) } ∧
    tyI Try.prog 72 = some { size := 1, bytes := 8, zero := some (.v (.nilFunc)) } ∧
    tyI Try.prog 74 = some { size := 1, bytes := 8, zero := some (.v (.nilFunc)) } ∧
    tyI Try.prog 75 = some { size := 1, bytes := 8, zero := some (.v (.nilFunc)) } ∧
    tyI Try.prog 76 = some { size := 1, bytes := 8, zero := some (.v (.nilFunc)) } ∧
    tyI Try.prog 77 = some { size := 1, bytes := 24, zero := some (.v (.slice none 0 0)) } ∧
    tyI Try.prog 79 = some { size := 1, bytes := 8, zero := some (.v (.nilFunc)) } ∧
    tyI Try.prog 80 = some { size := 1, bytes := 8, zero := some (.v (.nilFunc)) } ∧
    tyI Try.prog 81 = some { size := 1, bytes := 8, zero := some (.v (.nilFunc)) } ∧
    tyI Try.prog 82 = some { size := 1, bytes := 8, zero := some (.v (.nilFunc)) } ∧
    tyI Try.prog 83 = some { size := 1, bytes := 8, zero := some (.v (.nilFunc)) } ∧
    tyI Try.prog 84 = some { size := 1, bytes := 8, zero := some (.v (.nilFunc)) } ∧
    tyI Try.prog 85 = some { size := 1, bytes := 8, zero := some (.v (.map none)) } ∧
    tyI Try.prog 86 = some { size := 1, bytes := 8, zero := some (.v (.nilFunc)) } ∧
    tyI Try.prog 87 = some { size := 1, bytes := 8, zero := some (.v (.nilFunc)) } ∧
    tyI Try.prog 88 = some { size := 1, bytes := 24, zero := some (.agg [.v (.slice none 0 0)]) } ∧
    tyI Try.prog 89 = some { size := 1, bytes := 24, zero := some (.agg [.v (.slice none 0 0)]) } ∧
    tyI Try.prog 90 = some { size := 1, bytes := 24, zero := some (.v (.slice none 0 0)) } ∧
    tyI Try.prog 91 = some { size := 1, bytes := 8, zero := some (.v (.nilFunc)) } ∧
    tyI Try.prog 92 = some { size := 1, bytes := 8, zero := some (.v (.nilFunc)) } ∧
    tyI Try.prog 93 = some { size := 1, bytes := 8, zero := some (.v (.nilFunc)) } ∧
    tyI Try.prog 94 = some { size := 1, bytes := 8, zero := some (.v (.nilFunc)) } ∧
    tyI Try.prog 95 = some { size := 1, bytes := 8, zero := some (.v (.nilFunc)) } ∧
    tyI Try.prog 96 = some { size := 1, bytes := 8, zero := some (.v (.nilFunc)) } ∧
    tyI Try.prog 97 = some { size := 1, bytes := 8, zero := some (.v (.nilFunc)) } ∧
    tyI Try.prog 98 = some { size := 1, bytes := 8, zero := some (.v (.nilFunc)) } ∧
    tyI Try.prog 99 = some { size := 1, bytes := 24, zero := some (.v (.slice none 0 0)) } ∧
    tyI Try.prog 101 = some { size := 1, bytes := 8, zero := some (.v (.nilFunc)) } ∧
    tyI Try.prog 102 = some { size := 1, bytes := 8, zero := some (.v (.nilFunc)) } ∧
    tyI Try.prog 103 = some { size := 1, bytes := 8, zero := some (.v (.nilFunc)) } ∧
    tyI Try.prog 104 = some { size := 1, bytes := 8, zero := some (.v (.pointer none)) } ∧
    tyI Try.prog 105 = some { size := 2, bytes := 16, zero := some (.agg [.v (.map none), .v (.bool false)]) } ∧
    tyI Try.prog 106 = some { size := 2, bytes := 16, zero := some (.agg [.v (.map none), .v (.bool false)]) } ∧
    tyI Try.prog 107 = some { size := 1, bytes := 8, zero := some (.v (.nilFunc)) } ∧
    tyI Try.prog 108 = some { size := 1, bytes := 8, zero := some (.v (.nilFunc)) } ∧
    tyI Try.prog 109 = some { size := 1, bytes := 8, zero := some (.v (.nilFunc)) } ∧
    tyI Try.prog 110 = some { size := 1, bytes := 8, zero := some (.v (.nilFunc)) } ∧
    tyI Try.prog 112 = some { size := 1, bytes := 8, zero := some (.v (.nilFunc)) } ∧
    tyI Try.prog 113 = some { size := 1, bytes := 8, zero := some (.v (.nilFunc)) } ∧
    tyI Try.prog 114 = some { size := 1, bytes := 8, zero := some (.v (.nilFunc)) } ∧
    tyI Try.prog 115 = some { size := 1, bytes := 8, zero := some (.v (.nilFunc)) } ∧
    tyI Try.prog 116 = some { size := 1, bytes := 8, zero := some (.v (.nilFunc)) } ∧
    tyI Try.prog 117 = some { size := 1, bytes := 8, zero := some (.v (.pointer none)) } ∧
    tyI Try.prog 118 = some { size := 1, bytes := 24, zero := some (.agg [.v (.slice none 0 0)]) } ∧
    tyI Try.prog 119 = some { size := 1, bytes := 24, zero := some (.agg [.v (.slice none 0 0)]) } ∧
    tyI Try.prog 120 = some { size := 1, bytes := 8, zero := some (.v (.nilFunc)) } ∧
    tyI Try.prog 121 = some { size := 1, bytes := 8, zero := some (.v (.nilFunc)) } ∧
    tyI Try.prog 122 = some { size := 1, bytes := 8, zero := some (.v (.int .u64 0)) } ∧
    tyI Try.prog 123 = some { size := 1, bytes := 8, zero := some (.v (.pointer none)) } ∧
    tyI Try.prog 124 = some { size := 4, bytes := 32, zero := some (.agg [.v (.pointer none), .v (.pointer none), .v (.pointer none), .v (.pointer none)]) } ∧
    tyI Try.prog 125 = some { size := 4, bytes := 32, zero := some (.agg [.v (.pointer none), .v (.pointer none), .v (.pointer none), .v (.pointer none)]) } ∧
    tyI Try.prog 126 = some { size := 1, bytes := 8, zero := some (.v (.nilFunc)) } ∧
    tyI Try.prog 127 = some { size := 1, bytes := 24, zero := some (.v (.slice none 0 0)) } ∧
    tyI Try.prog 128 = some { size := 1, bytes := 8, zero := some (.v (.nilFunc)) } ∧
    tyI Try.prog 129 = some { size := 1, bytes := 8, zero := some (.v (.nilFunc)) } ∧
    tyI Try.prog 130 = some { size := 1, bytes := 8, zero := some (.v (.nilFunc)) } ∧
    tyI Try.prog 131 = some { size := 3, bytes := 24, zero := some (.agg [.v (.int .i64 0), .v (.int .i64 0), .v (.int .i64 0)]) } ∧
    tyI Try.prog 132 = some { size := 1, bytes := 8, zero := some (.v (.nilFunc)) } ∧
    tyI Try.prog 133 = some { size := 1, bytes := 8, zero := some (.v (.nilFunc)) } ∧
    tyI Try.prog 134 = some { size := 1, bytes := 8, zero := some (.v (.nilFunc)) } ∧
    tyI Try.prog 135 = some { size := 1, bytes := 8, zero := some (.v (.nilFunc)) } ∧
    tyI Try.prog 137 = some { size := 1, bytes := 8, zero := some (.v (.nilFunc)) } ∧
    tyI Try.prog 138 = some { size := 1, bytes := 8, zero := some (.v (.pointer none)) } ∧
    tyI Try.prog 139 = some { size := 1, bytes := 8, zero := some (.v (.pointer none)) } ∧
    tyI Try.prog 140 = some { size := 1, bytes := 8, zero := some (.v (.nilFunc)) } ∧
    tyI Try.prog 141 = some { size := 1, bytes := 24, zero := some (.v (.slice none 0 0)) } ∧
    tyI Try.prog 142 = some { size := 4, bytes := 96, zero := some (.agg [.v (.slice none 0 0), .v (.slice none 0 0), .v (.slice none 0 0), .v (.slice none 0 0)]) } ∧
    tyI Try.prog 143 = some { size := 12, bytes := 160, zero := some (.agg [.v (.pointer none), .v (.int .i64 0), .v (.pointer none), .v (.pointer none), .v (.pointer none), .v (.pointer none), .v (.slice none 0 0), .v (.slice none 0 0), .v (.slice none 0 0), .v (.slice none 0 0), .v (.int .i64 0), .v (.bool false)]) } ∧
    tyI Try.prog 144 = some { size := 12, bytes := 160, zero := some (.agg [.v (.pointer none), .v (.int .i64 0), .v (.pointer none), .v (.pointer none), .v (.pointer none), .v (.pointer none), .v (.slice none 0 0), .v (.slice none 0 0), .v (.slice none 0 0), .v (.slice none 0 0), .v (.int .i64 0), .v (.bool false)]) } ∧
    tyI Try.prog 145 = some { size := 1, bytes := 8, zero := some (.v (.nilFunc)) } ∧
    tyI Try.prog 146 = some { size := 1, bytes := 8, zero := some (.v (.nilFunc)) } ∧
    tyI Try.prog 147 = some { size := 1, bytes := 8, zero := some (.v (.nilFunc)) } ∧
    tyI Try.prog 149 = some { size := 1, bytes := 8, zero := some (.v (.nilFunc)) } ∧
    tyI Try.prog 150 = some { size := 1, bytes := 8, zero := some (.v (.nilFunc)) } ∧
    tyI Try.prog 151 = some { size := 1, bytes := 8, zero := some (.v (.nilFunc)) } ∧
    tyI Try.prog 152 = some { size := 1, bytes := 8, zero := some (.v (.nilFunc)) } ∧
    tyI Try.prog 153 = some { size := 1, bytes := 8, zero := some (.v (.nilFunc)) } ∧
    tyI Try.prog 154 = some { size := 1, bytes := 8, zero := some (.v (.nilFunc)) } ∧
    tyI Try.prog 155 = some { size := 1, bytes := 8, zero := some (.v (.nilFunc)) } ∧
    tyI Try.prog 156 = some { size := 1, bytes := 8, zero := some (.v (.int .u64 0)) } ∧
    tyI Try.prog 157 = some { size := 1, bytes := 8, zero := some (.v (.nilFunc)) } ∧
    tyI Try.prog 158 = some { size := 1, bytes := 8, zero := some (.v (.nilFunc)) } ∧
    tyI Try.prog 159 = some { size := 1, bytes := 8, zero := some (.v (.nilFunc)) } ∧
    tyI Try.prog 160 = some { size := 1, bytes := 8, zero := some (.v (.nilFunc)) } ∧
    tyI Try.prog 161 = some { size := 1, bytes := 8, zero := some (.v (.nilFunc)) } ∧
    tyI Try.prog 162 = some { size := 1, bytes := 8, zero := some (.v (.nilFunc)) } ∧
    tyI Try.prog 163 = some { size := 1, bytes := 8, zero := some (.v (.pointer none)) } ∧
    tyI Try.prog 164 = some { size := 2, bytes := 32, zero := some (.agg [.v (.slice none 0 0), .v (.pointer none)]) } ∧
    tyI Try.prog 165 = some { size := 2, bytes := 32, zero := some (.agg [.v (.slice none 0 0), .v (.pointer none)]) } ∧
    tyI Try.prog 167 = some { size := 1, bytes := 8, zero := some (.v (.nilFunc)) } ∧
    tyI Try.prog 168 = some { size := 1, bytes := 8, zero := some (.v (.nilFunc)) } ∧
    tyI Try.prog 169 = some { size := 1, bytes := 8, zero := some (.v (.nilFunc)) } ∧
    tyI Try.prog 170 = some { size := 1, bytes := 8, zero := some (.v (.nilFunc)) } ∧
    tyI Try.prog 171 = some { size := 1, bytes := 8, zero := some (.v (.nilFunc)) } ∧
    tyI Try.prog 172 = some { size := 1, bytes := 8, zero := some (.v (.nilFunc)) } ∧
    tyI Try.prog 173 = some { size := 1, bytes := 8, zero := some (.v (.nilFunc)) } ∧
    tyI Try.prog 174 = some { size := 1, bytes := 8, zero := some (.v (.nilFunc)) } ∧
    tyI Try.prog 175 = some { size := 2, bytes := 32, zero := some (.agg [.v (.slice none 0 0), .v (.int .i64 0)]) } ∧
    tyI Try.prog 176 = some { size := 2, bytes := 32, zero := some (.agg [.v (.slice none 0 0), .v (.int .i64 0)]) } ∧
    tyI Try.prog 177 = some { size := 1, bytes := 8, zero := some (.v (.nilFunc)) } ∧
    tyI Try.prog 178 = some { size := 1, bytes := 8, zero := some (.v (.nilFunc)) } ∧
    tyI Try.prog 179 = some { size := 1, bytes := 8, zero := some (.v (.nilFunc)) } ∧
    tyI Try.prog 180 = some { size := 1, bytes := 8, zero := some (.v (.nilFunc)) } ∧
    tyI Try.prog 181 = some { size := 1, bytes := 8, zero := some (.v (.nilFunc)) } ∧
    tyI Try.prog 182 = some { size := 1, bytes := 8, zero := some (.v (.nilFunc)) } ∧
    tyI Try.prog 183 = some { size := 1, bytes := 24, zero := some (.v (.slice none 0 0)) } ∧
    tyI Try.prog 184 = some { size := 1, bytes := 8, zero := some (.v (.nilFunc)) } ∧
    tyI Try.prog 185 = some { size := 1, bytes := 8, zero := some (.v (.nilFunc)) } ∧
    tyI Try.prog 186 = some { size := 1, bytes := 8, zero := some (.v (.nilFunc)) } ∧
    tyI Try.prog 187 = some { size := 1, bytes := 8, zero := some (.v (.nilFunc)) } ∧
    tyI Try.prog 188 = some { size := 1, bytes := 8, zero := some (.v (.nilFunc)) } ∧
    tyI Try.prog 189 = some { size := 1, bytes := 8, zero := some (.v (.nilFunc)) } ∧
    tyI Try.prog 190 = some { size := 1, bytes := 8, zero := some (.v (.nilFunc)) } ∧
    tyI Try.prog 191 = some { size := 2, bytes := 24, zero := some (.agg [.v (.string ⟨#[]⟩), .v (.int .i64 0)]) } ∧
    tyI Try.prog 192 = some { size := 2, bytes := 24, zero := some (.agg [.v (.string ⟨#[]⟩), .v (.int .i64 0)]) } ∧
    tyI Try.prog 193 = some { size := 1, bytes := 24, zero := some (.v (.slice none 0 0)) } ∧
    tyI Try.prog 194 = some { size := 1, bytes := 24, zero := some (.agg [.v (.slice none 0 0)]) } ∧
    tyI Try.prog 195 = some { size := 1, bytes := 24, zero := some (.agg [.v (.slice none 0 0)]) } ∧
    tyI Try.prog 196 = some { size := 1, bytes := 4, zero := some (.v (.int .u32 0)) } ∧
    tyI Try.prog 197 = some { size := 1, bytes := 8, zero := some (.v (.nilFunc)) } ∧
    tyI Try.prog 198 = some { size := 1, bytes := 8, zero := some (.v (.nilFunc)) } ∧
    tyI Try.prog 199 = some { size := 1, bytes := 8, zero := some (.v (.nilFunc)) } ∧
    tyI Try.prog 200 = some { size := 1, bytes := 8, zero := some (.v (.nilFunc)) } ∧
    tyI Try.prog 202 = some { size := 1, bytes := 8, zero := some (.v (.nilFunc)) } ∧
    tyI Try.prog 203 = some { size := 1, bytes := 8, zero := some (.v (.int .i64 0)) } ∧
    tyI Try.prog 205 = some { size := 1, bytes := 8, zero := some (.v (.nilFunc)) } ∧
    tyI Try.prog 206 = some { size := 1, bytes := 8, zero := some (.v (.nilFunc)) } ∧
    tyI Try.prog 207 = some { size := 1, bytes := 8, zero := some (.v (.nilFunc)) } ∧
    tyI Try.prog 208 = some { size := 1, bytes := 8, zero := some (.v (.nilFunc)) } ∧
    tyI Try.prog 209 = some { size := 1, bytes := 8, zero := some (.v (.nilFunc)) } ∧
    tyI Try.prog 210 = some { size := 1, bytes := 8, zero := some (.v (.nilFunc)) } ∧
    tyI Try.prog 211 = some { size := 1, bytes := 8, zero := some (.v (.nilFunc)) } ∧
    tyI Try.prog 212 = some { size := 1, bytes := 8, zero := some (.v (.nilFunc)) } ∧
    tyI Try.prog 213 = some { size := 1, bytes := 8, zero := some (.v (.nilFunc)) } ∧
    tyI Try.prog 214 = some { size := 1, bytes := 8, zero := some (.v (.nilFunc)) } ∧
    tyI Try.prog 215 = some { size := 1, bytes := 8, zero := some (.v (.int .u64 0)) } ∧
    tyI Try.prog 216 = some { size := 1, bytes := 8, zero := some (.v (.nilFunc)) } ∧
    tyI Try.prog 217 = some { size := 1, bytes := 8, zero := some (.v (.nilFunc)) } ∧
    tyI Try.prog 218 = some { size := 1, bytes := 8, zero := some (.v (.pointer none)) } ∧
    tyI Try.prog 219 = some { size := 1, bytes := 8, zero := some (.v (.nilFunc)) } ∧
    tyI Try.prog 220 = some { size := 1, bytes := 8, zero := some (.v (.nilFunc)) } ∧
    tyI Try.prog 221 = some { size := 1, bytes := 8, zero := some (.v (.nilFunc)) } ∧
    tyI Try.prog 222 = some { size := 1, bytes := 8, zero := some (.v (.nilFunc)) } ∧
    tyI Try.prog 223 = some { size := 1, bytes := 8, zero := some (.v (.pointer none)) } ∧
    tyI Try.prog 225 = some { size := 1, bytes := 8, zero := some (.v (.nilFunc)) } ∧
    tyI Try.prog 226 = some { size := 1, bytes := 8, zero := some (.v (.nilFunc)) } ∧
    tyI Try.prog 227 = some { size := 1, bytes := 8, zero := some (.v (.nilFunc)) } ∧
    tyI Try.prog 228 = some { size := 4, bytes := 40, zero := some (.agg [.v (.pointer none), .v (.pointer none), .v (.pointer none), .v (.string ⟨#[]⟩)]) } ∧
    tyI Try.prog 229 = some { size := 4, bytes := 40, zero := some (.agg [.v (.pointer none), .v (.pointer none), .v (.pointer none), .v (.string ⟨#[]⟩)]) } ∧
    tyI Try.prog 233 = some { size := 1, bytes := 1, zero := some (.v (.int .u8 0)) } ∧
    tyI Try.prog 234 = some { size := 1, bytes := 1, zero := some (.v (.int .u8 0)) } ∧
    tyI Try.prog 235 = some { size := 1, bytes := 8, zero := some (.v (.nilFunc)) } ∧
    tyI Try.prog 236 = some { size := 1, bytes := 8, zero := some (.v (.pointer none)) } ∧
    tyI Try.prog 237 = some { size := 1, bytes := 4, zero := some (.v (.int .i32 0)) } ∧
    tyI Try.prog 238 = some { size := 1, bytes := 4, zero := some (.v (.int .i32 0)) } ∧
    tyI Try.prog 239 = some { size := 11, bytes := 48, zero := some (.agg [.v (.int .u64 0), .v (.int .u64 0), .v (.int .u32 0), .v (.int .u8 0), .v (.int .u8 0), .v (.int .u8 0), .v (.int .u8 0), .v (.nilFunc), .v (.pointer none), .v (.int .i32 0), .v (.int .i32 0)]) } ∧
    tyI Try.prog 240 = some { size := 11, bytes := 48, zero := some (.agg [.v (.int .u64 0), .v (.int .u64 0), .v (.int .u32 0), .v (.int .u8 0), .v (.int .u8 0), .v (.int .u8 0), .v (.int .u8 0), .v (.nilFunc), .v (.pointer none), .v (.int .i32 0), .v (.int .i32 0)]) } ∧
    tyI Try.prog 241 = some { size := 1, bytes := 8, zero := some (.v (.pointer none)) } := by
  refine ⟨?_, ?_, ?_, ?_, ?_, ?_, ?_, ?_, ?_, ?_, ?_, ?_, ?_, ?_, ?_, ?_, ?_, ?_, ?_, ?_, ?_, ?_, ?_, ?_, ?_, ?_, ?_, ?_, ?_, ?_, ?_, ?_, ?_, ?_, ?_, ?_, ?_, ?_, ?_, ?_, ?_, ?_, ?_, ?_, ?_, ?_, ?_, ?_, ?_, ?_, ?_, ?_, ?_, ?_, ?_, ?_, ?_, ?_, ?_, ?_, ?_, ?_, ?_, ?_, ?_, ?_, ?_, ?_, ?_, ?_, ?_, ?_, ?_, ?_, ?_, ?_, ?_, ?_, ?_, ?_, ?_, ?_, ?_, ?_, ?_, ?_, ?_, ?_, ?_, ?_, ?_, ?_, ?_, ?_, ?_, ?_, ?_, ?_, ?_, ?_, ?_, ?_, ?_, ?_, ?_, ?_, ?_, ?_, ?_, ?_, ?_, ?_, ?_, ?_, ?_, ?_, ?_, ?_, ?_, ?_, ?_, ?_, ?_, ?_, ?_, ?_, ?_, ?_, ?_, ?_, ?_, ?_, ?_, ?_, ?_, ?_, ?_, ?_, ?_, ?_, ?_, ?_, ?_, ?_, ?_, ?_, ?_, ?_, ?_, ?_, ?_, ?_, ?_, ?_, ?_, ?_, ?_, ?_, ?_, ?_, ?_, ?_, ?_, ?_, ?_, ?_, ?_, ?_, ?_, ?_, ?_, ?_, ?_, ?_, ?_, ?_, ?_, ?_, ?_, ?_, ?_, ?_, ?_, ?_, ?_, ?_, ?_, ?_, ?_, ?_, ?_, ?_, ?_, ?_, ?_, ?_, ?_, ?_, ?_, ?_, ?_, ?_, ?_, ?_, ?_, ?_, ?_, ?_, ?_, ?_, ?_, ?_, ?_, ?_, ?_, ?_, ?_, ?_, ?_, ?_, ?_, ?_, ?_, ?_, ?_⟩ <;> kernel_rfl
noncomputable def pkOf (t i : Nat) : String := (((Try.prog.fieldsOf t)[i]?).map (·.pkgPath)).getD ""

theorem unders :
    Try.prog.underlying 0 = some (TypeDesc.tuple #[]) ∧
    Try.prog.underlying 1 = some (TypeDesc.func #[] #[] false) ∧
    Try.prog.underlying 2 = some (TypeDesc.int IntKind.i64) ∧
    Try.prog.underlying 3 = some (TypeDesc.int IntKind.i64) ∧
    Try.prog.underlying 4 = some TypeDesc.bool ∧
    Try.prog.underlying 5 = some (TypeDesc.int IntKind.u8) ∧
    Try.prog.underlying 6 = some (TypeDesc.int IntKind.u8) ∧
    Try.prog.underlying 7 = some (TypeDesc.struct #[{ name := "x", type := 2, offset := 0, embedded := false, tag := "", pkgPath := "runtime", byteOffset := 0 }, { name := "y", type := 3, offset := 1, embedded := false, tag := "", pkgPath := "runtime", byteOffset := 8 }, { name := "signed", type := 4, offset := 2, embedded := false, tag := "", pkgPath := "runtime", byteOffset := 16 }, { name := "code", type := 6, offset := 3, embedded := false, tag := "", pkgPath := "runtime", byteOffset := 17 }]) ∧
    Try.prog.underlying 8 = some (TypeDesc.struct #[{ name := "x", type := 2, offset := 0, embedded := false, tag := "", pkgPath := "runtime", byteOffset := 0 }, { name := "y", type := 3, offset := 1, embedded := false, tag := "", pkgPath := "runtime", byteOffset := 8 }, { name := "signed", type := 4, offset := 2, embedded := false, tag := "", pkgPath := "runtime", byteOffset := 16 }, { name := "code", type := 6, offset := 3, embedded := false, tag := "", pkgPath := "runtime", byteOffset := 17 }]) ∧
    Try.prog.underlying 9 = some TypeDesc.string ∧
    Try.prog.underlying 10 = some TypeDesc.string ∧
    Try.prog.underlying 11 = some TypeDesc.string ∧
    Try.prog.underlying 12 = some (TypeDesc.int IntKind.u64) ∧
    Try.prog.underlying 13 = some (TypeDesc.struct #[{ name := "msg", type := 9, offset := 0, embedded := false, tag := "", pkgPath := "runtime", byteOffset := 0 }, { name := "addr", type := 12, offset := 1, embedded := false, tag := "", pkgPath := "runtime", byteOffset := 16 }]) ∧
    Try.prog.underlying 14 = some (TypeDesc.struct #[{ name := "msg", type := 9, offset := 0, embedded := false, tag := "", pkgPath := "runtime", byteOffset := 0 }, { name := "addr", type := 12, offset := 1, embedded := false, tag := "", pkgPath := "runtime", byteOffset := 16 }]) ∧
    Try.prog.underlying 15 = some (TypeDesc.pointer 229) ∧
    Try.prog.underlying 16 = some (TypeDesc.pointer 232) ∧
    Try.prog.underlying 17 = some (TypeDesc.pointer 240) ∧
    Try.prog.underlying 18 = some (TypeDesc.struct #[{ name := "typ", type := 17, offset := 0, embedded := false, tag := "", pkgPath := pkOf 18 0, byteOffset := 0 }]) ∧
    Try.prog.underlying 19 = some (TypeDesc.struct #[{ name := "typ", type := 17, offset := 0, embedded := false, tag := "", pkgPath := pkOf 19 0, byteOffset := 0 }]) ∧
    Try.prog.underlying 20 = some (TypeDesc.interface #[]) ∧
    Try.prog.underlying 21 = some (TypeDesc.int IntKind.i32) ∧
    Try.prog.underlying 22 = some (TypeDesc.slice 41) ∧
    Try.prog.underlying 23 = some (TypeDesc.slice 66) ∧
    Try.prog.underlying 24 = some (TypeDesc.func #[22] #[4] false) ∧
    Try.prog.underlying 25 = some (TypeDesc.func #[23] #[4] false) ∧
    Try.prog.underlying 26 = some (TypeDesc.func #[] #[4] false) ∧
    Try.prog.underlying 27 = some (TypeDesc.pointer 89) ∧
    Try.prog.underlying 28 = some (TypeDesc.int IntKind.i64) ∧
    Try.prog.underlying 29 = some (TypeDesc.tuple #[27, 28]) ∧
    Try.prog.underlying 30 = some (TypeDesc.func #[22] #[27, 28] false) ∧
    Try.prog.underlying 31 = some (TypeDesc.tuple #[23, 28]) ∧
    Try.prog.underlying 32 = some (TypeDesc.func #[22] #[23, 28] false) ∧
    Try.prog.underlying 33 = some (TypeDesc.func #[23, 23] #[4] false) ∧
    Try.prog.underlying 34 = some (TypeDesc.func #[27] #[23] false) ∧
    Try.prog.underlying 35 = some (TypeDesc.func #[23] #[27, 28] false) ∧
    Try.prog.underlying 36 = some (TypeDesc.func #[22, 23] #[4] false) ∧
    Try.prog.underlying 37 = some (TypeDesc.array 4 9) ∧
    Try.prog.underlying 38 = some (TypeDesc.struct #[{ name := "Hour", type := 2, offset := 0, embedded := false, tag := "", pkgPath := "", byteOffset := 0 }, { name := "Dims", type := 37, offset := 1, embedded := false, tag := "", pkgPath := "", byteOffset := 8 }]) ∧
    Try.prog.underlying 39 = some (TypeDesc.struct #[{ name := "Hour", type := 2, offset := 0, embedded := false, tag := "", pkgPath := "", byteOffset := 0 }, { name := "Dims", type := 37, offset := 1, embedded := false, tag := "", pkgPath := "", byteOffset := 8 }]) ∧
    Try.prog.underlying 40 = some (TypeDesc.struct #[{ name := "Key", type := 39, offset := 0, embedded := false, tag := "", pkgPath := "", byteOffset := 0 }, { name := "Value", type := 2, offset := 5, embedded := false, tag := "", pkgPath := "", byteOffset := 72 }]) ∧
    Try.prog.underlying 41 = some (TypeDesc.struct #[{ name := "Key", type := 39, offset := 0, embedded := false, tag := "", pkgPath := "", byteOffset := 0 }, { name := "Value", type := 2, offset := 5, embedded := false, tag := "", pkgPath := "", byteOffset := 72 }]) ∧
    Try.prog.underlying 42 = some (TypeDesc.func #[99] #[27, 28] true) ∧
    Try.prog.underlying 43 = some (TypeDesc.struct #[{ name := "Count", type := 2, offset := 0, embedded := false, tag := "", pkgPath := "", byteOffset := 0 }, { name := "Sum", type := 2, offset := 1, embedded := false, tag := "", pkgPath := "", byteOffset := 8 }, { name := "Min", type := 2, offset := 2, embedded := false, tag := "", pkgPath := "", byteOffset := 16 }, { name := "Max", type := 2, offset := 3, embedded := false, tag := "", pkgPath := "", byteOffset := 24 }]) ∧
    Try.prog.underlying 44 = some (TypeDesc.struct #[{ name := "Count", type := 2, offset := 0, embedded := false, tag := "", pkgPath := "", byteOffset := 0 }, { name := "Sum", type := 2, offset := 1, embedded := false, tag := "", pkgPath := "", byteOffset := 8 }, { name := "Min", type := 2, offset := 2, embedded := false, tag := "", pkgPath := "", byteOffset := 16 }, { name := "Max", type := 2, offset := 3, embedded := false, tag := "", pkgPath := "", byteOffset := 24 }]) ∧
    Try.prog.underlying 45 = some (TypeDesc.tuple #[44, 4]) ∧
    Try.prog.underlying 46 = some (TypeDesc.func #[] #[44, 4] false) ∧
    Try.prog.underlying 47 = some (TypeDesc.func #[27] #[4] false) ∧
    Try.prog.underlying 48 = some (TypeDesc.func #[22, 3] #[4] false) ∧
    Try.prog.underlying 49 = some (TypeDesc.slice 23) ∧
    Try.prog.underlying 50 = some (TypeDesc.func #[23] #[27] false) ∧
    Try.prog.underlying 51 = some (TypeDesc.func #[49] #[23, 28] false) ∧
    Try.prog.underlying 52 = some (TypeDesc.func #[23, 23, 23] #[4] false) ∧
    Try.prog.underlying 53 = some (TypeDesc.array 4 4) ∧
    Try.prog.underlying 54 = some (TypeDesc.struct #[{ name := "From", type := 2, offset := 0, embedded := false, tag := "", pkgPath := "", byteOffset := 0 }, { name := "To", type := 2, offset := 1, embedded := false, tag := "", pkgPath := "", byteOffset := 8 }, { name := "Group", type := 53, offset := 2, embedded := false, tag := "", pkgPath := "", byteOffset := 16 }, { name := "Has", type := 53, offset := 6, embedded := false, tag := "", pkgPath := "", byteOffset := 20 }, { name := "Filter", type := 37, offset := 10, embedded := false, tag := "", pkgPath := "", byteOffset := 24 }]) ∧
    Try.prog.underlying 55 = some (TypeDesc.struct #[{ name := "From", type := 2, offset := 0, embedded := false, tag := "", pkgPath := "", byteOffset := 0 }, { name := "To", type := 2, offset := 1, embedded := false, tag := "", pkgPath := "", byteOffset := 8 }, { name := "Group", type := 53, offset := 2, embedded := false, tag := "", pkgPath := "", byteOffset := 16 }, { name := "Has", type := 53, offset := 6, embedded := false, tag := "", pkgPath := "", byteOffset := 20 }, { name := "Filter", type := 37, offset := 10, embedded := false, tag := "", pkgPath := "", byteOffset := 24 }]) ∧
    Try.prog.underlying 56 = some (TypeDesc.func #[55] #[4] false) ∧
    Try.prog.underlying 57 = some (TypeDesc.func #[55, 22] #[23, 28] false) ∧
    Try.prog.underlying 58 = some (TypeDesc.func #[49] #[23, 28] true) ∧
    Try.prog.underlying 59 = some (TypeDesc.func #[55, 27] #[23, 28] false) ∧
    Try.prog.underlying 60 = some (TypeDesc.func #[55, 22, 3] #[4] false) ∧
    Try.prog.underlying 61 = some (TypeDesc.func #[55, 23] #[23, 28] false) ∧
    Try.prog.underlying 62 = some (TypeDesc.func #[55, 23] #[4] false) ∧
    Try.prog.underlying 63 = some (TypeDesc.func #[23, 2, 2] #[23] false) ∧
    Try.prog.underlying 64 = some (TypeDesc.func #[39] #[44, 4] false) ∧
    Try.prog.underlying 65 = some (TypeDesc.struct #[{ name := "Key", type := 39, offset := 0, embedded := false, tag := "", pkgPath := "", byteOffset := 0 }, { name := "Cell", type := 44, offset := 5, embedded := false, tag := "", pkgPath := "", byteOffset := 72 }]) ∧
    Try.prog.underlying 66 = some (TypeDesc.struct #[{ name := "Key", type := 39, offset := 0, embedded := false, tag := "", pkgPath := "", byteOffset := 0 }, { name := "Cell", type := 44, offset := 5, embedded := false, tag := "", pkgPath := "", byteOffset := 72 }]) ∧
    Try.prog.underlying 67 = some (TypeDesc.func #[23] #[44, 4] false) ∧
    Try.prog.underlying 68 = some (TypeDesc.func #[2, 2] #[27] false) ∧
    Try.prog.underlying 69 = some (TypeDesc.func #[160] #[] false) ∧
    Try.prog.underlying 70 = some (TypeDesc.func #[160] #[] false) ∧
    Try.prog.underlying 71 = some (TypeDesc.func #[2, 2] #[70] false) ∧
    Try.prog.underlying 72 = some (TypeDesc.func #[23, 2, 2, 39, 3] #[4] false) ∧
    Try.prog.underlying 73 = some (TypeDesc.tuple #[66, 4]) ∧
    Try.prog.underlying 74 = some (TypeDesc.func #[3] #[66, 4] false) ∧
    Try.prog.underlying 75 = some (TypeDesc.func #[] #[3] false) ∧
    Try.prog.underlying 76 = some (TypeDesc.func #[39, 2, 2, 3] #[4] false) ∧
    Try.prog.underlying 77 = some (TypeDesc.slice 5) ∧
    Try.prog.underlying 78 = some (TypeDesc.tuple #[77, 28]) ∧
    Try.prog.underlying 79 = some (TypeDesc.func #[27, 3] #[77, 28] false) ∧
    Try.prog.underlying 80 = some (TypeDesc.func #[23, 3] #[77, 28] false) ∧
    Try.prog.underlying 81 = some (TypeDesc.func #[77, 77] #[4] false) ∧
    Try.prog.underlying 82 = some (TypeDesc.func #[23, 3] #[4] false) ∧
    Try.prog.underlying 83 = some (TypeDesc.func #[77, 3] #[27, 28] false) ∧
    Try.prog.underlying 84 = some (TypeDesc.func #[23, 77, 3, 3] #[4] false) ∧
    Try.prog.underlying 85 = some (TypeDesc.map 39 44) ∧
    Try.prog.underlying 86 = some (TypeDesc.func #[44, 44] #[44, 4] false) ∧
    Try.prog.underlying 87 = some (TypeDesc.func #[2] #[44] false) ∧
    Try.prog.underlying 88 = some (TypeDesc.struct #[{ name := "l", type := 23, offset := 0, embedded := false, tag := "", pkgPath := pkOf 88 0, byteOffset := 0 }]) ∧
    Try.prog.underlying 89 = some (TypeDesc.struct #[{ name := "l", type := 23, offset := 0, embedded := false, tag := "", pkgPath := pkOf 89 0, byteOffset := 0 }]) ∧
    Try.prog.underlying 90 = some (TypeDesc.slice 39) ∧
    Try.prog.underlying 91 = some (TypeDesc.func #[93, 95] #[90] false) ∧
    Try.prog.underlying 92 = some (TypeDesc.func #[152] #[] false) ∧
    Try.prog.underlying 93 = some (TypeDesc.func #[152] #[] false) ∧
    Try.prog.underlying 94 = some (TypeDesc.func #[85] #[93] false) ∧
    Try.prog.underlying 95 = some (TypeDesc.func #[39, 39] #[3] false) ∧
    Try.prog.underlying 96 = some (TypeDesc.func #[23, 66] #[23, 28] false) ∧
    Try.prog.underlying 97 = some (TypeDesc.func #[44] #[4] false) ∧
    Try.prog.underlying 98 = some (TypeDesc.func #[23] #[23] false) ∧
    Try.prog.underlying 99 = some (TypeDesc.slice 27) ∧
    Try.prog.underlying 100 = some (TypeDesc.tuple #[23, 4]) ∧
    Try.prog.underlying 101 = some (TypeDesc.func #[23, 23] #[23, 4] false) ∧
    Try.prog.underlying 102 = some (TypeDesc.func #[] #[23] false) ∧
    Try.prog.underlying 103 = some (TypeDesc.func #[55, 3] #[28] false) ∧
    Try.prog.underlying 104 = some (TypeDesc.pointer 106) ∧
    Try.prog.underlying 105 = some (TypeDesc.struct #[{ name := "at", type := 85, offset := 0, embedded := false, tag := "", pkgPath := pkOf 105 0, byteOffset := 0 }, { name := "over", type := 4, offset := 1, embedded := false, tag := "", pkgPath := pkOf 105 1, byteOffset := 8 }]) ∧
    Try.prog.underlying 106 = some (TypeDesc.struct #[{ name := "at", type := 85, offset := 0, embedded := false, tag := "", pkgPath := pkOf 106 0, byteOffset := 0 }, { name := "over", type := 4, offset := 1, embedded := false, tag := "", pkgPath := pkOf 106 1, byteOffset := 8 }]) ∧
    Try.prog.underlying 107 = some (TypeDesc.func #[39, 44] #[] false) ∧
    Try.prog.underlying 108 = some (TypeDesc.func #[55, 39] #[4] false) ∧
    Try.prog.underlying 109 = some (TypeDesc.func #[55, 39] #[39] false) ∧
    Try.prog.underlying 110 = some (TypeDesc.func #[] #[23, 28] false) ∧
    Try.prog.underlying 111 = some (TypeDesc.tuple #[3, 4]) ∧
    Try.prog.underlying 112 = some (TypeDesc.func #[23, 39, 113] #[3, 4] false) ∧
    Try.prog.underlying 113 = some (TypeDesc.func #[66, 39] #[3] false) ∧
    Try.prog.underlying 114 = some (TypeDesc.func #[2, 2] #[23] false) ∧
    Try.prog.underlying 115 = some (TypeDesc.func #[23] #[70] false) ∧
    Try.prog.underlying 116 = some (TypeDesc.func #[27, 3] #[28] false) ∧
    Try.prog.underlying 117 = some (TypeDesc.pointer 119) ∧
    Try.prog.underlying 118 = some (TypeDesc.struct #[{ name := "b", type := 77, offset := 0, embedded := false, tag := "", pkgPath := pkOf 118 0, byteOffset := 0 }]) ∧
    Try.prog.underlying 119 = some (TypeDesc.struct #[{ name := "b", type := 77, offset := 0, embedded := false, tag := "", pkgPath := pkOf 119 0, byteOffset := 0 }]) ∧
    Try.prog.underlying 120 = some (TypeDesc.func #[122] #[117] false) ∧
    Try.prog.underlying 121 = some (TypeDesc.func #[2] #[117] false) ∧
    Try.prog.underlying 122 = some (TypeDesc.int IntKind.u64) ∧
    Try.prog.underlying 123 = some (TypeDesc.pointer 165) ∧
    Try.prog.underlying 124 = some (TypeDesc.array 4 123) ∧
    Try.prog.underlying 125 = some (TypeDesc.array 4 123) ∧
    Try.prog.underlying 126 = some (TypeDesc.func #[27, 3] #[123] false) ∧
    Try.prog.underlying 127 = some (TypeDesc.slice 9) ∧
    Try.prog.underlying 128 = some (TypeDesc.func #[27, 3] #[127] false) ∧
    Try.prog.underlying 129 = some (TypeDesc.func #[9] #[117] false) ∧
    Try.prog.underlying 130 = some (TypeDesc.func #[9] #[3, 4] false) ∧
    Try.prog.underlying 131 = some (TypeDesc.array 3 2) ∧
    Try.prog.underlying 132 = some (TypeDesc.func #[77] #[77] false) ∧
    Try.prog.underlying 133 = some (TypeDesc.func #[] #[77] false) ∧
    Try.prog.underlying 134 = some (TypeDesc.func #[23, 3] #[28] false) ∧
    Try.prog.underlying 135 = some (TypeDesc.func #[23, 3] #[77] false) ∧
    Try.prog.underlying 136 = some (TypeDesc.tuple #[77, 3, 28]) ∧
    Try.prog.underlying 137 = some (TypeDesc.func #[77] #[77, 3, 28] false) ∧
    Try.prog.underlying 138 = some (TypeDesc.pointer 144) ∧
    Try.prog.underlying 139 = some (TypeDesc.pointer 176) ∧
    Try.prog.underlying 140 = some (TypeDesc.func #[77] #[139] false) ∧
    Try.prog.underlying 141 = some (TypeDesc.slice 4) ∧
    Try.prog.underlying 142 = some (TypeDesc.array 4 141) ∧
    Try.prog.underlying 143 = some (TypeDesc.struct #[{ name := "Reader", type := 139, offset := 0, embedded := true, tag := "", pkgPath := "", byteOffset := 0 }, { name := "dims", type := 3, offset := 1, embedded := false, tag := "", pkgPath := pkOf 143 1, byteOffset := 8 }, { name := "codes", type := 125, offset := 2, embedded := false, tag := "", pkgPath := pkOf 143 2, byteOffset := 16 }, { name := "used", type := 142, offset := 6, embedded := false, tag := "", pkgPath := pkOf 143 3, byteOffset := 48 }, { name := "hour", type := 2, offset := 10, embedded := false, tag := "", pkgPath := pkOf 143 4, byteOffset := 144 }, { name := "wrong", type := 4, offset := 11, embedded := false, tag := "", pkgPath := pkOf 143 5, byteOffset := 152 }]) ∧
    Try.prog.underlying 144 = some (TypeDesc.struct #[{ name := "Reader", type := 139, offset := 0, embedded := true, tag := "", pkgPath := "", byteOffset := 0 }, { name := "dims", type := 3, offset := 1, embedded := false, tag := "", pkgPath := pkOf 144 1, byteOffset := 8 }, { name := "codes", type := 125, offset := 2, embedded := false, tag := "", pkgPath := pkOf 144 2, byteOffset := 16 }, { name := "used", type := 142, offset := 6, embedded := false, tag := "", pkgPath := pkOf 144 3, byteOffset := 48 }, { name := "hour", type := 2, offset := 10, embedded := false, tag := "", pkgPath := pkOf 144 4, byteOffset := 144 }, { name := "wrong", type := 4, offset := 11, embedded := false, tag := "", pkgPath := pkOf 144 5, byteOffset := 152 }]) ∧
    Try.prog.underlying 145 = some (TypeDesc.func #[3] #[3] false) ∧
    Try.prog.underlying 146 = some (TypeDesc.func #[] #[66] false) ∧
    Try.prog.underlying 147 = some (TypeDesc.func #[] #[28] false) ∧
    Try.prog.underlying 148 = some (TypeDesc.tuple #[2, 4]) ∧
    Try.prog.underlying 149 = some (TypeDesc.func #[2, 2] #[2, 4] false) ∧
    Try.prog.underlying 150 = some (TypeDesc.func #[93] #[90] false) ∧
    Try.prog.underlying 151 = some (TypeDesc.func #[90, 95] #[] false) ∧
    Try.prog.underlying 152 = some (TypeDesc.func #[39] #[4] false) ∧
    Try.prog.underlying 153 = some (TypeDesc.func #[183] #[3] true) ∧
    Try.prog.underlying 154 = some (TypeDesc.func #[2, 2] #[3] false) ∧
    Try.prog.underlying 155 = some (TypeDesc.func #[127, 127] #[3] false) ∧
    Try.prog.underlying 156 = some (TypeDesc.int IntKind.u64) ∧
    Try.prog.underlying 157 = some (TypeDesc.func #[3, 158] #[3] false) ∧
    Try.prog.underlying 158 = some (TypeDesc.func #[3] #[4] false) ∧
    Try.prog.underlying 159 = some (TypeDesc.func #[2] #[3] false) ∧
    Try.prog.underlying 160 = some (TypeDesc.func #[66] #[4] false) ∧
    Try.prog.underlying 161 = some (TypeDesc.func #[27, 160] #[] false) ∧
    Try.prog.underlying 162 = some (TypeDesc.func #[127] #[123] false) ∧
    Try.prog.underlying 163 = some (TypeDesc.pointer 195) ∧
    Try.prog.underlying 164 = some (TypeDesc.struct #[{ name := "l", type := 127, offset := 0, embedded := false, tag := "", pkgPath := pkOf 164 0, byteOffset := 0 }, { name := "codes", type := 163, offset := 1, embedded := false, tag := "", pkgPath := pkOf 164 1, byteOffset := 24 }]) ∧
    Try.prog.underlying 165 = some (TypeDesc.struct #[{ name := "l", type := 127, offset := 0, embedded := false, tag := "", pkgPath := pkOf 165 0, byteOffset := 0 }, { name := "codes", type := 163, offset := 1, embedded := false, tag := "", pkgPath := pkOf 165 1, byteOffset := 24 }]) ∧
    Try.prog.underlying 166 = some (TypeDesc.tuple #[9, 4]) ∧
    Try.prog.underlying 167 = some (TypeDesc.func #[3] #[9, 4] false) ∧
    Try.prog.underlying 168 = some (TypeDesc.func #[122] #[77] false) ∧
    Try.prog.underlying 169 = some (TypeDesc.func #[23, 3] #[127] false) ∧
    Try.prog.underlying 170 = some (TypeDesc.func #[9] #[77] false) ∧
    Try.prog.underlying 171 = some (TypeDesc.func #[127, 9] #[3] false) ∧
    Try.prog.underlying 172 = some (TypeDesc.func #[2] #[77] false) ∧
    Try.prog.underlying 173 = some (TypeDesc.func #[] #[122] false) ∧
    Try.prog.underlying 174 = some (TypeDesc.func #[77] #[77, 28] false) ∧
    Try.prog.underlying 175 = some (TypeDesc.struct #[{ name := "b", type := 77, offset := 0, embedded := false, tag := "", pkgPath := pkOf 175 0, byteOffset := 0 }, { name := "f", type := 28, offset := 1, embedded := false, tag := "", pkgPath := pkOf 175 1, byteOffset := 24 }]) ∧
    Try.prog.underlying 176 = some (TypeDesc.struct #[{ name := "b", type := 77, offset := 0, embedded := false, tag := "", pkgPath := pkOf 176 0, byteOffset := 0 }, { name := "f", type := 28, offset := 1, embedded := false, tag := "", pkgPath := pkOf 176 1, byteOffset := 24 }]) ∧
    Try.prog.underlying 177 = some (TypeDesc.func #[3] #[9] false) ∧
    Try.prog.underlying 178 = some (TypeDesc.func #[3] #[122] false) ∧
    Try.prog.underlying 179 = some (TypeDesc.func #[] #[2] false) ∧
    Try.prog.underlying 180 = some (TypeDesc.func #[90, 93] #[90] false) ∧
    Try.prog.underlying 181 = some (TypeDesc.func #[90, 3, 3, 3, 95] #[] false) ∧
    Try.prog.underlying 182 = some (TypeDesc.func #[156] #[3] false) ∧
    Try.prog.underlying 183 = some (TypeDesc.slice 3) ∧
    Try.prog.underlying 184 = some (TypeDesc.func #[2] #[4] false) ∧
    Try.prog.underlying 185 = some (TypeDesc.func #[9, 9] #[3] false) ∧
    Try.prog.underlying 186 = some (TypeDesc.func #[] #[163] false) ∧
    Try.prog.underlying 187 = some (TypeDesc.func #[9, 3] #[4] false) ∧
    Try.prog.underlying 188 = some (TypeDesc.func #[187] #[] false) ∧
    Try.prog.underlying 189 = some (TypeDesc.func #[187] #[] false) ∧
    Try.prog.underlying 190 = some (TypeDesc.func #[] #[189] false) ∧
    Try.prog.underlying 191 = some (TypeDesc.struct #[{ name := "k", type := 9, offset := 0, embedded := false, tag := "", pkgPath := pkOf 191 0, byteOffset := 0 }, { name := "v", type := 3, offset := 1, embedded := false, tag := "", pkgPath := pkOf 191 1, byteOffset := 16 }]) ∧
    Try.prog.underlying 192 = some (TypeDesc.struct #[{ name := "k", type := 9, offset := 0, embedded := false, tag := "", pkgPath := pkOf 192 0, byteOffset := 0 }, { name := "v", type := 3, offset := 1, embedded := false, tag := "", pkgPath := pkOf 192 1, byteOffset := 16 }]) ∧
    Try.prog.underlying 193 = some (TypeDesc.slice 192) ∧
    Try.prog.underlying 194 = some (TypeDesc.struct #[{ name := "l", type := 193, offset := 0, embedded := false, tag := "", pkgPath := pkOf 194 0, byteOffset := 0 }]) ∧
    Try.prog.underlying 195 = some (TypeDesc.struct #[{ name := "l", type := 193, offset := 0, embedded := false, tag := "", pkgPath := pkOf 195 0, byteOffset := 0 }]) ∧
    Try.prog.underlying 196 = some (TypeDesc.int IntKind.u32) ∧
    Try.prog.underlying 197 = some (TypeDesc.func #[77] #[196] false) ∧
    Try.prog.underlying 198 = some (TypeDesc.func #[127] #[127] false) ∧
    Try.prog.underlying 199 = some (TypeDesc.func #[196] #[77] false) ∧
    Try.prog.underlying 200 = some (TypeDesc.func #[122] #[77, 4] false) ∧
    Try.prog.underlying 201 = some (TypeDesc.tuple #[77, 4]) ∧
    Try.prog.underlying 202 = some (TypeDesc.func #[90, 3, 3, 95] #[] false) ∧
    Try.prog.underlying 203 = some (TypeDesc.int IntKind.i64) ∧
    Try.prog.underlying 204 = some (TypeDesc.tuple #[3, 203]) ∧
    Try.prog.underlying 205 = some (TypeDesc.func #[90, 3, 3, 95] #[3, 203] false) ∧
    Try.prog.underlying 206 = some (TypeDesc.func #[90, 3, 3, 95] #[4] false) ∧
    Try.prog.underlying 207 = some (TypeDesc.func #[90, 3, 3, 3, 95] #[3] false) ∧
    Try.prog.underlying 208 = some (TypeDesc.func #[90, 3, 3, 3, 95] #[3, 4] false) ∧
    Try.prog.underlying 209 = some (TypeDesc.func #[196] #[3] false) ∧
    Try.prog.underlying 210 = some (TypeDesc.func #[122] #[3] false) ∧
    Try.prog.underlying 211 = some (TypeDesc.func #[9] #[4] false) ∧
    Try.prog.underlying 212 = some (TypeDesc.func #[193, 3, 193] #[193] true) ∧
    Try.prog.underlying 213 = some (TypeDesc.func #[193] #[189] false) ∧
    Try.prog.underlying 214 = some (TypeDesc.func #[196, 77] #[196] false) ∧
    Try.prog.underlying 215 = some (TypeDesc.int IntKind.u64) ∧
    Try.prog.underlying 216 = some (TypeDesc.func #[3] #[156] false) ∧
    Try.prog.underlying 217 = some (TypeDesc.func #[90, 3, 218, 95] #[3] false) ∧
    Try.prog.underlying 218 = some (TypeDesc.pointer 3) ∧
    Try.prog.underlying 219 = some (TypeDesc.func #[90, 3, 3, 3, 218, 95] #[3] false) ∧
    Try.prog.underlying 220 = some (TypeDesc.func #[193, 193] #[4] false) ∧
    Try.prog.underlying 221 = some (TypeDesc.func #[193, 3] #[] false) ∧
    Try.prog.underlying 222 = some (TypeDesc.func #[196] #[196] false) ∧
    Try.prog.underlying 223 = some (TypeDesc.pointer 215) ∧
    Try.prog.underlying 224 = some (TypeDesc.tuple #[3, 3]) ∧
    Try.prog.underlying 225 = some (TypeDesc.func #[90, 3, 3, 218, 95] #[3, 3] false) ∧
    Try.prog.underlying 226 = some (TypeDesc.func #[193] #[] false) ∧
    Try.prog.underlying 227 = some (TypeDesc.func #[] #[9] false) ∧
    Try.prog.underlying 228 = some (TypeDesc.struct #[{ name := "_interface", type := 17, offset := 0, embedded := false, tag := "", pkgPath := "runtime", byteOffset := 0 }, { name := "concrete", type := 17, offset := 1, embedded := false, tag := "", pkgPath := "runtime", byteOffset := 8 }, { name := "asserted", type := 17, offset := 2, embedded := false, tag := "", pkgPath := "runtime", byteOffset := 16 }, { name := "missingMethod", type := 9, offset := 3, embedded := false, tag := "", pkgPath := "runtime", byteOffset := 24 }]) ∧
    Try.prog.underlying 229 = some (TypeDesc.struct #[{ name := "_interface", type := 17, offset := 0, embedded := false, tag := "", pkgPath := "runtime", byteOffset := 0 }, { name := "concrete", type := 17, offset := 1, embedded := false, tag := "", pkgPath := "runtime", byteOffset := 8 }, { name := "asserted", type := 17, offset := 2, embedded := false, tag := "", pkgPath := "runtime", byteOffset := 16 }, { name := "missingMethod", type := 9, offset := 3, embedded := false, tag := "", pkgPath := "runtime", byteOffset := 24 }]) ∧
    Try.prog.underlying 230 = some (TypeDesc.array 0 16) ∧
    Try.prog.underlying 231 = some (TypeDesc.struct #[{ name := "_", type := 230, offset := 0, embedded := false, tag := "", pkgPath := "runtime", byteOffset := 0 }]) ∧
    Try.prog.underlying 232 = some (TypeDesc.struct #[{ name := "_", type := 230, offset := 0, embedded := false, tag := "", pkgPath := "runtime", byteOffset := 0 }]) ∧
    Try.prog.underlying 233 = some (TypeDesc.int IntKind.u8) ∧
    Try.prog.underlying 234 = some (TypeDesc.int IntKind.u8) ∧
    Try.prog.underlying 235 = some (TypeDesc.func #[241, 241] #[4] false) ∧
    Try.prog.underlying 236 = some (TypeDesc.pointer 5) ∧
    Try.prog.underlying 237 = some (TypeDesc.int IntKind.i32) ∧
    Try.prog.underlying 238 = some (TypeDesc.int IntKind.i32) ∧
    Try.prog.underlying 239 = some (TypeDesc.struct #[{ name := "Size_", type := 12, offset := 0, embedded := false, tag := "", pkgPath := "", byteOffset := 0 }, { name := "PtrBytes", type := 12, offset := 1, embedded := false, tag := "", pkgPath := "", byteOffset := 8 }, { name := "Hash", type := 196, offset := 2, embedded := false, tag := "", pkgPath := "", byteOffset := 16 }, { name := "TFlag", type := 233, offset := 3, embedded := false, tag := "", pkgPath := "", byteOffset := 20 }, { name := "Align_", type := 5, offset := 4, embedded := false, tag := "", pkgPath := "", byteOffset := 21 }, { name := "FieldAlign_", type := 5, offset := 5, embedded := false, tag := "", pkgPath := "", byteOffset := 22 }, { name := "Kind_", type := 234, offset := 6, embedded := false, tag := "", pkgPath := "", byteOffset := 23 }, { name := "Equal", type := 235, offset := 7, embedded := false, tag := "", pkgPath := "", byteOffset := 24 }, { name := "GCData", type := 236, offset := 8, embedded := false, tag := "", pkgPath := "", byteOffset := 32 }, { name := "Str", type := 237, offset := 9, embedded := false, tag := "", pkgPath := "", byteOffset := 40 }, { name := "PtrToThis", type := 238, offset := 10, embedded := false, tag := "", pkgPath := "", byteOffset := 44 }]) ∧
    Try.prog.underlying 240 = some (TypeDesc.struct #[{ name := "Size_", type := 12, offset := 0, embedded := false, tag := "", pkgPath := "", byteOffset := 0 }, { name := "PtrBytes", type := 12, offset := 1, embedded := false, tag := "", pkgPath := "", byteOffset := 8 }, { name := "Hash", type := 196, offset := 2, embedded := false, tag := "", pkgPath := "", byteOffset := 16 }, { name := "TFlag", type := 233, offset := 3, embedded := false, tag := "", pkgPath := "", byteOffset := 20 }, { name := "Align_", type := 5, offset := 4, embedded := false, tag := "", pkgPath := "", byteOffset := 21 }, { name := "FieldAlign_", type := 5, offset := 5, embedded := false, tag := "", pkgPath := "", byteOffset := 22 }, { name := "Kind_", type := 234, offset := 6, embedded := false, tag := "", pkgPath := "", byteOffset := 23 }, { name := "Equal", type := 235, offset := 7, embedded := false, tag := "", pkgPath := "", byteOffset := 24 }, { name := "GCData", type := 236, offset := 8, embedded := false, tag := "", pkgPath := "", byteOffset := 32 }, { name := "Str", type := 237, offset := 9, embedded := false, tag := "", pkgPath := "", byteOffset := 40 }, { name := "PtrToThis", type := 238, offset := 10, embedded := false, tag := "", pkgPath := "", byteOffset := 44 }]) ∧
    Try.prog.underlying 241 = some TypeDesc.unsafePointer := by
  refine ⟨Try.underlying0, Try.underlying1, Try.underlying2, Try.underlying3, Try.underlying4, Try.underlying5, Try.underlying6, Try.underlying7, Try.underlying8, Try.underlying9, Try.underlying10, Try.underlying11, Try.underlying12, Try.underlying13, Try.underlying14, Try.underlying15, Try.underlying16, Try.underlying17, by kernel_rfl, by kernel_rfl, Try.underlying20, Try.underlying21, Try.underlying22, Try.underlying23, Try.underlying24, Try.underlying25, Try.underlying26, Try.underlying27, Try.underlying28, Try.underlying29, Try.underlying30, Try.underlying31, Try.underlying32, Try.underlying33, Try.underlying34, Try.underlying35, Try.underlying36, Try.underlying37, Try.underlying38, Try.underlying39, Try.underlying40, Try.underlying41, Try.underlying42, Try.underlying43, Try.underlying44, Try.underlying45, Try.underlying46, Try.underlying47, Try.underlying48, Try.underlying49, Try.underlying50, Try.underlying51, Try.underlying52, Try.underlying53, Try.underlying54, Try.underlying55, Try.underlying56, Try.underlying57, Try.underlying58, Try.underlying59, Try.underlying60, Try.underlying61, Try.underlying62, Try.underlying63, Try.underlying64, Try.underlying65, Try.underlying66, Try.underlying67, Try.underlying68, Try.underlying69, Try.underlying70, Try.underlying71, Try.underlying72, Try.underlying73, Try.underlying74, Try.underlying75, Try.underlying76, Try.underlying77, Try.underlying78, Try.underlying79, Try.underlying80, Try.underlying81, Try.underlying82, Try.underlying83, Try.underlying84, Try.underlying85, Try.underlying86, Try.underlying87, by kernel_rfl, by kernel_rfl, Try.underlying90, Try.underlying91, Try.underlying92, Try.underlying93, Try.underlying94, Try.underlying95, Try.underlying96, Try.underlying97, Try.underlying98, Try.underlying99, Try.underlying100, Try.underlying101, Try.underlying102, Try.underlying103, Try.underlying104, by kernel_rfl, by kernel_rfl, Try.underlying107, Try.underlying108, Try.underlying109, Try.underlying110, Try.underlying111, Try.underlying112, Try.underlying113, Try.underlying114, Try.underlying115, Try.underlying116, Try.underlying117, by kernel_rfl, by kernel_rfl, Try.underlying120, Try.underlying121, Try.underlying122, Try.underlying123, Try.underlying124, Try.underlying125, Try.underlying126, Try.underlying127, Try.underlying128, Try.underlying129, Try.underlying130, Try.underlying131, Try.underlying132, Try.underlying133, Try.underlying134, Try.underlying135, Try.underlying136, Try.underlying137, Try.underlying138, Try.underlying139, Try.underlying140, Try.underlying141, Try.underlying142, by kernel_rfl, by kernel_rfl, Try.underlying145, Try.underlying146, Try.underlying147, Try.underlying148, Try.underlying149, Try.underlying150, Try.underlying151, Try.underlying152, Try.underlying153, Try.underlying154, Try.underlying155, Try.underlying156, Try.underlying157, Try.underlying158, Try.underlying159, Try.underlying160, Try.underlying161, Try.underlying162, Try.underlying163, by kernel_rfl, by kernel_rfl, Try.underlying166, Try.underlying167, Try.underlying168, Try.underlying169, Try.underlying170, Try.underlying171, Try.underlying172, Try.underlying173, Try.underlying174, by kernel_rfl, by kernel_rfl, Try.underlying177, Try.underlying178, Try.underlying179, Try.underlying180, Try.underlying181, Try.underlying182, Try.underlying183, Try.underlying184, Try.underlying185, Try.underlying186, Try.underlying187, Try.underlying188, Try.underlying189, Try.underlying190, by kernel_rfl, by kernel_rfl, Try.underlying193, by kernel_rfl, by kernel_rfl, Try.underlying196, Try.underlying197, Try.underlying198, Try.underlying199, Try.underlying200, Try.underlying201, Try.underlying202, Try.underlying203, Try.underlying204, Try.underlying205, Try.underlying206, Try.underlying207, Try.underlying208, Try.underlying209, Try.underlying210, Try.underlying211, Try.underlying212, Try.underlying213, Try.underlying214, Try.underlying215, Try.underlying216, Try.underlying217, Try.underlying218, Try.underlying219, Try.underlying220, Try.underlying221, Try.underlying222, Try.underlying223, Try.underlying224, Try.underlying225, Try.underlying226, Try.underlying227, Try.underlying228, Try.underlying229, Try.underlying230, Try.underlying231, Try.underlying232, Try.underlying233, Try.underlying234, Try.underlying235, Try.underlying236, Try.underlying237, Try.underlying238, Try.underlying239, Try.underlying240, Try.underlying241⟩
theorem mixed : Try.prog.follows .mixedOrders = true := by kernel_rfl
end Go.Proofs

namespace Go.Proofs
open Go Go.Av

theorem i64r (a : Int64) : -9223372036854775808 ≤ a.toInt ∧ a.toInt ≤ 9223372036854775807 := by
  have h1 := Int64.le_toInt a
  have h2 := Int64.toInt_lt a
  omega

theorem wrap_i64 (x : Int) : IntKind.i64.wrap x = x.bmod (2 ^ 64) := by
  have e1 : (2:Int) ^ 64 = 18446744073709551616 := by decide
  have e2 : ((2 ^ 64 : Nat) : Int) = 18446744073709551616 := by decide
  have e3 : (2:Int) ^ (64 - 1) = 9223372036854775808 := by decide
  rw [Int.bmod_def]
  simp only [IntKind.wrap, IntKind.signed, IntKind.bits, Bool.true_and, decide_eq_true_eq, e1, e2, e3]
  split <;> split <;> omega

theorem wrap_add (a b : Int64) : IntKind.i64.wrap (a.toInt + b.toInt) = (a + b).toInt := by
  rw [Int64.toInt_add, wrap_i64]

theorem wrap_in {x : Int} (h1 : -9223372036854775808 ≤ x) (h2 : x ≤ 9223372036854775807) : IntKind.i64.wrap x = x := by
  rw [wrap_i64, Int.bmod_def]
  have e2 : ((2 ^ 64 : Nat) : Int) = 18446744073709551616 := by decide
  simp only [e2]
  split <;> omega

theorem wrap_nat (v : BitVec 64) : IntKind.i64.wrap (v.toNat : Int) = v.toInt := by
  rw [wrap_i64, BitVec.toInt_eq_toNat_bmod]

theorem ite_toInt (c : Prop) [Decidable c] (a b : Int64) : (if c then a else b).toInt = if c then a.toInt else b.toInt := by split <;> rfl

def addOk (a b : Int64) : Bool := decide (-9223372036854775808 ≤ a.toInt + b.toInt ∧ a.toInt + b.toInt ≤ 9223372036854775807)

theorem bv_of (a : Int) : BitVec.ofInt IntKind.i64.bits a = BitVec.ofInt 64 a := rfl

theorem fdiv_sign (v : BitVec 64) : decide (v.toInt.fdiv (2 ^ min 63 IntKind.i64.bits) = 0) = !v.msb := by
  have h1 := BitVec.le_toInt v
  have h2 := BitVec.toInt_lt (x := v)
  rw [BitVec.msb_eq_toInt]
  have e : (2 : Int) ^ min 63 IntKind.i64.bits = 9223372036854775808 := by decide
  rw [e, Int.fdiv_eq_ediv_of_nonneg _ (by omega)]
  simp only [Nat.reduceSub, Int.reducePow] at h1 h2
  by_cases h : v.toInt < 0
  · simp [h]; omega
  · simp [h]; omega

theorem plus_law (a b : Int64) :
    decide ((IntKind.i64.wrap ((BitVec.ofInt IntKind.i64.bits (IntKind.i64.wrap ((BitVec.ofInt IntKind.i64.bits a.toInt ^^^ BitVec.ofInt IntKind.i64.bits (IntKind.i64.wrap (a.toInt + b.toInt))).toNat : Int)) &&&
      BitVec.ofInt IntKind.i64.bits (IntKind.i64.wrap ((BitVec.ofInt IntKind.i64.bits b.toInt ^^^ BitVec.ofInt IntKind.i64.bits (IntKind.i64.wrap (a.toInt + b.toInt))).toNat : Int))).toNat : Int)).fdiv (2 ^ min 63 IntKind.i64.bits) = 0) = addOk a b := by
  have w : ∀ (v : BitVec IntKind.i64.bits), IntKind.i64.wrap (v.toNat : Int) = v.toInt := fun v => wrap_nat v
  have o : ∀ (v : BitVec IntKind.i64.bits), BitVec.ofInt IntKind.i64.bits v.toInt = v := fun v => BitVec.ofInt_toInt
  have f : ∀ (v : BitVec IntKind.i64.bits), decide (v.toInt.fdiv (2 ^ min 63 IntKind.i64.bits) = 0) = !v.msb := fun v => fdiv_sign v
  rw [w, w, w, f, o, o, wrap_add]
  have m : ∀ x : Int64, (BitVec.ofInt IntKind.i64.bits x.toInt).msb = decide (x.toInt < 0) := by
    intro x
    show BitVec.msb (BitVec.ofInt 64 x.toInt) = _
    rw [BitVec.msb_eq_toInt]
    show decide ((BitVec.ofInt 64 x.toBitVec.toInt).toInt < 0) = _
    rw [BitVec.ofInt_toInt]; rfl
  rw [BitVec.msb_and, BitVec.msb_xor, BitVec.msb_xor, m, m, m, Int64.toInt_add]
  have ha := i64r a
  have hb := i64r b
  unfold addOk
  rw [Int.bmod_def]
  have e2 : ((2 ^ 64 : Nat) : Int) = 18446744073709551616 := by decide
  simp only [e2]
  generalize hr : (if (a.toInt + b.toInt) % 18446744073709551616 < (18446744073709551616 + 1) / 2 then (a.toInt + b.toInt) % 18446744073709551616 else (a.toInt + b.toInt) % 18446744073709551616 - 18446744073709551616) = r
  have hr' : (r = a.toInt + b.toInt ∧ -9223372036854775808 ≤ a.toInt + b.toInt ∧ a.toInt + b.toInt ≤ 9223372036854775807) ∨ (r = a.toInt + b.toInt - 18446744073709551616 ∧ 9223372036854775808 ≤ a.toInt + b.toInt) ∨ (r = a.toInt + b.toInt + 18446744073709551616 ∧ a.toInt + b.toInt < -9223372036854775808) := by
    subst hr; split <;> omega
  clear hr m w o f e2
  by_cases h1 : a.toInt < 0 <;> by_cases h2 : b.toInt < 0 <;> by_cases h3 : r < 0 <;> by_cases h4 : -9223372036854775808 ≤ a.toInt + b.toInt ∧ a.toInt + b.toInt ≤ 9223372036854775807 <;> simp only [h1, h2, h3, h4] <;> first | rfl | (exfalso; omega)

end Go.Proofs

/- The data's words, and what simp is to know. -/
set_option maxRecDepth 30000
set_option linter.defProp false
namespace Go.Proofs
open Go Go.Av

abbrev i64 (n : Int) : AV := .v (.int .i64 n)
abbrev i6 (n : Int64) : AV := .v (.int .i64 n.toInt)
abbrev str (b : ByteArray) : AV := .v (.string b)
abbrev boo (b : Bool) : AV := .v (.bool b)

structure Key where
  h : Int64
  a : ByteArray
  b : ByteArray
  c : ByteArray
  d : ByteArray
  deriving DecidableEq

structure Cell where
  n : Int64
  s : Int64
  lo : Int64
  hi : Int64
  deriving DecidableEq

structure Fact where
  k : Key
  v : Int64
  deriving DecidableEq

structure Row where
  k : Key
  c : Cell
  deriving DecidableEq

def Key.av (k : Key) : List AV := [i6 k.h, str k.a, str k.b, str k.c, str k.d]
def Cell.av (c : Cell) : List AV := [i6 c.n, i6 c.s, i6 c.lo, i6 c.hi]
def Fact.av (f : Fact) : List AV := [i6 f.k.h, str f.k.a, str f.k.b, str f.k.c, str f.k.d, i6 f.v]
def Row.av (r : Row) : List AV := [i6 r.k.h, str r.k.a, str r.k.b, str r.k.c, str r.k.d, i6 r.c.n, i6 r.c.s, i6 r.c.lo, i6 r.c.hi]

theorem Bel_yl {n id : Nat} : Bel n (.yl id) ↔ id < n := ⟨fun h => by cases h with | yl h => exact h, .yl⟩
attribute [push_cast] Bel_mp Bel_ptr Bel_ms Bel_yl Bel_fn Bel_v List.forall_mem_append Bel_tup Bel_agg Bel_sl Bel_ep tokBel ite_toInt ER EW EA EL EO EE EB tys unders EVL Wv_nil i6 i64 str boo Key.av Cell.av Fact.av Row.av binK pickK loadK storeK rowsOf bnd fillL two ldAV aggT szOf zeroAV chunks spliceL Cfg.ro detOp gval resAll resOne packAV exists_const implies_true decide_true decide_false if_true if_false
theorem roomI : ((room : Nat) : Int) = 140737488355328 := rfl
def EPM := And.intro (@EP) <| And.intro (@EC) <| And.intro (@EK) <| And.intro (@opt_some) <| And.intro (@opt_none) <| And.intro (@roomI) <| And.intro (@aBuiltin.eq_1) <| And.intro (@aBuiltin.eq_2) <| And.intro (@aBuiltin.eq_3) <| And.intro (@aBuiltin.eq_4) <| And.intro (@aAppend.eq_1) <| And.intro (@aLen.eq_def) <| And.intro (@aSlice.eq_def) <| And.intro (@aIndexAddr.eq_def) <| And.intro (@aIndex.eq_def) <| And.intro (@aBuild.eq_1) <| And.intro (@aBuildSlice.eq_1) <| (@aMakeSlice.eq_def)

theorem RetP {P : Program} {rs : List ResultVar} {s s' : AState} {ex : Exit} {e : Env} {r : AV} (l : List AV) (hl : resAll P e s' rs = some l := by simp only [push_cast, ↓EPM, ↓reduceIte, seval, reduceCtorEq] <;> rfl)
    (hk : Keeps s s' := by first | exact Keeps.base _ _ | (repeat (first | exact Keeps.base _ _ | refine Keeps.new ?_ _ | refine Keeps.set ?_ (by first | (simp; done) | omega | (simp only [EO]; omega)) _)))
    (hb : Bel s.next (packAV l) := by first | exact .v _ | (simp only [push_cast, List.forall_mem_map, List.map_nil, false_implies, List.mem_cons, List.not_mem_nil, or_false, forall_eq_or_imp, forall_eq, and_self, true_and, and_true]))
    (hex : ex = .normal ∨ ex = .ret := by exact .inr rfl) (hm : s'.base.marks = [] := by rfl) (hr : packAV l = r := by rfl) : Ret P rs s (fun d s2 => d = r ∧ s2 = s) ex e s' := Ret_pure hex hm hl hr hk (hr ▸ hb)
theorem RetW {P : Program} {rs : List ResultVar} {s s' : AState} {ex : Exit} {e : Env} {r : AV} (l m : List AV) (hl : resAll P e s' rs = some l := by simp only [push_cast, ↓EPM, ↓reduceIte, seval, reduceCtorEq] <;> rfl)
    (hw : WvL s' l m := by simp only [WvL, push_cast, ↓EPM, ↓reduceIte, seval, reduceCtorEq])
    (hk : Keeps s s' := by first | exact Keeps.base _ _ | (repeat (first | exact Keeps.base _ _ | refine Keeps.new ?_ _ | refine Keeps.set ?_ (by first | (simp; done) | omega | (simp only [EO]; omega)) _)))
    (hb : Bel s.next (packAV m) := by first | exact .v _ | (simp only [push_cast, List.forall_mem_map, List.map_nil, false_implies, List.mem_cons, List.not_mem_nil, or_false, forall_eq_or_imp, forall_eq, and_self, true_and, and_true]))
    (hex : ex = .normal ∨ ex = .ret := by exact .inr rfl) (hm : s'.base.marks = [] := by rfl) (hr : packAV m = r := by rfl) : Ret P rs s (fun d s2 => d = r ∧ s2 = s) ex e s' := Ret_weak hex hm hl hw hr hk (hr ▸ hb)
theorem enterA {P : Program} {f : FuncId} {args : List AV} {s : AState} {k : AV → AState → Prop} (C : Cfg) (c : Code) (rs : List ResultVar) {fn : Func} (hf : P.funcs[f]? = some fn)
    (h : s.Wf → (∀ d ∈ args, Bel s.next d) → aeval P C c (Ret P rs s k) (envA args) { s with base := ⟨s.next, []⟩ }) (hname : (fn.name == "runtime.NumGoroutine") = false := by kernel_rfl)
    (hb : fn.body = some c := by kernel_rfl) (hwf : codeBel fn.ntmps c = true := by kernel_rfl) (hlen : args.length ≤ fn.ntmps := by exact Nat.le_of_ble_eq_true rfl) (hrs : fn.results.toList = rs := by kernel_rfl) : ACalls P f args s k := ACalls_body hf hname hb hwf hlen hrs h
theorem drawA {P : Program} {C : Cfg} {ops : Array Oper} {K : Env → AState → Prop} {e : Env} {s : AState} (hm : P.follows .mixedOrders = true) 
    (h : aR P C ops s (fun e' => K e' s) ops.toList e) (hB : Region.lexB .any ops = true := by kernel_rfl) : aDraw P C ops K e s := aDraw_walk hm hB h
theorem chainA {P : Program} {C : Cfg} {ops : Array Oper} {K : Env → AState → Prop} {e : Env} {s : AState} (L : List AState) (bs : List (Option Nat)) (hm : P.follows .mixedOrders = true) (h : cS P C ops L K ops.toList bs 0 e) (hB : Region.lexB .any ops = true := by kernel_rfl)
    (hF : flagsB .any ops (flO bs) = true := by kernel_rfl) (hU : limB .any ops bs L.length = true := by kernel_rfl) (hL : L[0]? = some s := by rfl) : aDraw P C ops K e s := aDraw_chainS L bs hm hB hF hU hL h
end Go.Proofs

namespace Go.Proofs
open Go Go.Av
set_option linter.unusedSimpArgs false
set_option linter.unusedVariables false
set_option maxRecDepth 30000
set_option maxHeartbeats 2000000

def mergeC (a b : Cell) : Option Cell :=
  if a.n = 0 then some b else if b.n = 0 then some a else
  if addOk a.n b.n && addOk a.s b.s then some ⟨a.n + b.n, a.s + b.s, if b.lo.toInt < a.lo.toInt then b.lo else a.lo, if b.hi.toInt > a.hi.toInt then b.hi else a.hi⟩ else none

def zeroC : Cell := ⟨0, 0, 0, 0⟩
def resC : Option Cell → AV
  | some c => .tup [.agg c.av, boo true]
  | none => .tup [.agg zeroC.av, boo false]

theorem resC_bel (n : Nat) (o : Option Cell) : Bel n (resC o) = True := eq_true (by cases o <;> simp only [resC, Bel_tup, Bel_agg, Cell.av, List.mem_cons, List.not_mem_nil, or_false, forall_eq_or_imp, forall_eq, Bel_v, and_self])
attribute [push_cast] resC_bel
theorem i6_zero (a : Int64) : (a.toInt = 0) ↔ a = 0 := by
  rw [← Int64.toInt_inj]; rfl

theorem plus_law' (a b : Int64) :
    decide ((IntKind.i64.wrap ((BitVec.ofInt IntKind.i64.bits (IntKind.i64.wrap ((BitVec.ofInt IntKind.i64.bits a.toInt ^^^ BitVec.ofInt IntKind.i64.bits (a + b).toInt).toNat : Int)) &&&
      BitVec.ofInt IntKind.i64.bits (IntKind.i64.wrap ((BitVec.ofInt IntKind.i64.bits b.toInt ^^^ BitVec.ofInt IntKind.i64.bits (a + b).toInt).toNat : Int))).toNat : Int)).fdiv (2 ^ min 63 IntKind.i64.bits) = 0) = addOk a b := by
  have := plus_law a b
  simp only [wrap_add] at this
  exact this

theorem plus_spec (a b : Int64) : APure Try.prog 94 [i6 a, i6 b] (.tup [i6 (a + b), boo (addOk a b)]) := by
  intro s
  refine enterA ⟨[]⟩ (Try.f94.body.getD .skip) [.tmp 4, .tmp 5] Try.func94 fun hwf hbel => ?_; simp only [Try.f94, push_cast, ↓EPM, ↓reduceIte, seval, reduceCtorEq]
  simp only [wrap_add, plus_law']
  exact RetP [i6 (a + b), boo (addOk a b)]

theorem add_spec (a b : Int64) : APure Try.prog 101 [i6 a, i6 b] (if addOk a b then .tup [i6 (a + b), boo true] else .tup [i6 0, boo false]) := by
  intro s
  have ha := i64r a
  have hb := i64r b
  by_cases h0 : b.toInt < 0
  · have h1 : ¬ 0 ≤ b.toInt := by omega
    have e : IntKind.i64.wrap (-9223372036854775808 - b.toInt) = -9223372036854775808 - b.toInt := wrap_in (by omega) (by omega)
    by_cases h2 : a.toInt < -9223372036854775808 - b.toInt
    · have h3 : addOk a b = false := by unfold addOk; simp only [decide_eq_false_iff_not]; omega
      simp only [h3]
      refine enterA ⟨[]⟩ (Try.f101.body.getD .skip) [.tmp 4, .tmp 5] Try.func101 fun hwf hbel => ?_; simp only [h0, h1, h2, e,Try.f101, push_cast, ↓EPM, ↓reduceIte, seval, reduceCtorEq]
      exact RetP [i6 0, boo false]
    · have h3 : addOk a b = true := by unfold addOk; simp only [decide_eq_true_eq]; omega
      simp only [h3]
      refine enterA ⟨[]⟩ (Try.f101.body.getD .skip) [.tmp 4, .tmp 5] Try.func101 fun hwf hbel => ?_; simp only [h0, h1, h2, e,Try.f101, push_cast, ↓EPM, ↓reduceIte, seval, reduceCtorEq]
      simp only [wrap_add]; exact RetP [i6 (a + b), boo true]
  · have h1 : 0 ≤ b.toInt := by omega
    have e : IntKind.i64.wrap (9223372036854775807 - b.toInt) = 9223372036854775807 - b.toInt := wrap_in (by omega) (by omega)
    by_cases h2 : 9223372036854775807 - b.toInt < a.toInt
    · have h3 : addOk a b = false := by unfold addOk; simp only [decide_eq_false_iff_not]; omega
      simp only [h3]
      refine enterA ⟨[]⟩ (Try.f101.body.getD .skip) [.tmp 4, .tmp 5] Try.func101 fun hwf hbel => ?_; simp only [h0, h1, h2, e,Try.f101, push_cast, ↓EPM, ↓reduceIte, seval, reduceCtorEq]

      exact RetP [i6 0, boo false]
    · have h3 : addOk a b = true := by unfold addOk; simp only [decide_eq_true_eq]; omega
      simp only [h3]
      refine enterA ⟨[]⟩ (Try.f101.body.getD .skip) [.tmp 4, .tmp 5] Try.func101 fun hwf hbel => ?_; simp only [h0, h1, h2, e,Try.f101, push_cast, ↓EPM, ↓reduceIte, seval, reduceCtorEq]
      simp only [wrap_add]; exact RetP [i6 (a + b), boo true]

theorem merge_spec (a b : Cell) : APure Try.prog 46 [.agg a.av, .agg b.av] (resC (mergeC a b)) := by
  intro s
  by_cases h1 : a.n = 0
  · have h1' := (i6_zero a.n).2 h1
    rw [show mergeC a b = some b by simp [mergeC, h1]]
    refine enterA ⟨[2,3]⟩ (Try.f46.body.getD .skip) [.cell 4 44, .tmp 5] Try.func46 fun hwf hbel => ?_; simp only [h1',Try.f46, push_cast, ↓EPM, ↓reduceIte, seval, reduceCtorEq]
    exact RetP [.agg b.av, boo true]
  have h1' : ¬ a.n.toInt = 0 := fun h => h1 ((i6_zero a.n).1 h)
  by_cases h2 : b.n = 0
  · have h2' := (i6_zero b.n).2 h2
    rw [show mergeC a b = some a by simp [mergeC, h1, h2]]
    refine enterA ⟨[2,3]⟩ (Try.f46.body.getD .skip) [.cell 4 44, .tmp 5] Try.func46 fun hwf hbel => ?_; simp only [h1', h2',Try.f46, push_cast, ↓EPM, ↓reduceIte, seval, reduceCtorEq]
    exact RetP [.agg a.av, boo true]
  have h2' : ¬ b.n.toInt = 0 := fun h => h2 ((i6_zero b.n).1 h)
  have p1 := plus_spec a.n b.n
  have p2 := plus_spec a.s b.s
  by_cases o1 : addOk a.n b.n = true
  · by_cases o2 : addOk a.s b.s = true
    · simp only [o1, o2, if_true] at p1 p2
      rw [show mergeC a b = some ⟨a.n + b.n, a.s + b.s, if b.lo.toInt < a.lo.toInt then b.lo else a.lo, if b.hi.toInt > a.hi.toInt then b.hi else a.hi⟩ by simp [mergeC, h1, h2, o1, o2]]
      refine enterA ⟨[2,3]⟩ (Try.f46.body.getD .skip) [.cell 4 44, .tmp 5] Try.func46 fun hwf hbel => ?_; simp only [h1', h2',Try.f46, push_cast, ↓EPM, ↓reduceIte, seval, reduceCtorEq]
      refine p1.use ?_
      simp only [push_cast, ↓EPM, ↓reduceIte, seval, reduceCtorEq]
      refine p2.use ?_
      simp only [push_cast, ↓EPM, ↓reduceIte, seval, reduceCtorEq]
      exact RetP [.agg (Cell.av ⟨a.n + b.n, a.s + b.s, if b.lo.toInt < a.lo.toInt then b.lo else a.lo, if b.hi.toInt > a.hi.toInt then b.hi else a.hi⟩), boo true]
    · rw [show mergeC a b = none by simp [mergeC, h1, h2, o2]]
      have o2 : addOk a.s b.s = false := by simpa using o2
      simp only [o1, o2, if_true, if_false, Bool.false_eq_true] at p1 p2
      refine enterA ⟨[2,3]⟩ (Try.f46.body.getD .skip) [.cell 4 44, .tmp 5] Try.func46 fun hwf hbel => ?_; simp only [h1', h2',Try.f46, push_cast, ↓EPM, ↓reduceIte, seval, reduceCtorEq]
      refine p1.use ?_
      simp only [push_cast, ↓EPM, ↓reduceIte, seval, reduceCtorEq]
      refine p2.use ?_
      simp only [push_cast, ↓EPM, ↓reduceIte, seval, reduceCtorEq]
      exact RetP [.agg zeroC.av, boo false]
  · rw [show mergeC a b = none by simp [mergeC, h1, h2, o1]]
    have o1 : addOk a.n b.n = false := by simpa using o1
    simp only [o1, if_false, Bool.false_eq_true] at p1
    refine enterA ⟨[2,3]⟩ (Try.f46.body.getD .skip) [.cell 4 44, .tmp 5] Try.func46 fun hwf hbel => ?_; simp only [h1', h2',Try.f46, push_cast, ↓EPM, ↓reduceIte, seval, reduceCtorEq]
    refine p1.use ?_
    simp only [push_cast, ↓EPM, ↓reduceIte, seval, reduceCtorEq]
    refine p2.use ?_
    by_cases o2 : addOk a.s b.s = true
    · simp only [o2, push_cast, ↓EPM, ↓reduceIte, seval, reduceCtorEq]
      exact RetP [.agg zeroC.av, boo false]
    · have o2 : addOk a.s b.s = false := by simpa using o2
      simp only [o2, push_cast, ↓EPM, ↓reduceIte, seval, reduceCtorEq]
      exact RetP [.agg zeroC.av, boo false]

theorem rmerge_spec (a b : Cell) : APure Try.prog 69 [.agg a.av, .agg b.av] (resC (mergeC a b)) := by
  intro s
  by_cases h1 : a.n = 0
  · have h1' := (i6_zero a.n).2 h1
    rw [show mergeC a b = some b by simp [mergeC, h1]]
    refine enterA ⟨[2,3]⟩ (Try.f69.body.getD .skip) [.cell 4 44, .tmp 5] Try.func69 fun hwf hbel => ?_; simp only [h1',Try.f69, push_cast, ↓EPM, ↓reduceIte, seval, reduceCtorEq]
    exact RetP [.agg b.av, boo true]
  have h1' : ¬ a.n.toInt = 0 := fun h => h1 ((i6_zero a.n).1 h)
  by_cases h2 : b.n = 0
  · have h2' := (i6_zero b.n).2 h2
    rw [show mergeC a b = some a by simp [mergeC, h1, h2]]
    refine enterA ⟨[2,3]⟩ (Try.f69.body.getD .skip) [.cell 4 44, .tmp 5] Try.func69 fun hwf hbel => ?_; simp only [h1', h2',Try.f69, push_cast, ↓EPM, ↓reduceIte, seval, reduceCtorEq]
    exact RetP [.agg a.av, boo true]
  have h2' : ¬ b.n.toInt = 0 := fun h => h2 ((i6_zero b.n).1 h)
  have p1 := add_spec a.n b.n
  have p2 := add_spec a.s b.s
  by_cases o1 : addOk a.n b.n = true
  · by_cases o2 : addOk a.s b.s = true
    · simp only [o1, o2, if_true] at p1 p2
      rw [show mergeC a b = some ⟨a.n + b.n, a.s + b.s, if b.lo.toInt < a.lo.toInt then b.lo else a.lo, if b.hi.toInt > a.hi.toInt then b.hi else a.hi⟩ by simp [mergeC, h1, h2, o1, o2]]
      refine enterA ⟨[2,3]⟩ (Try.f69.body.getD .skip) [.cell 4 44, .tmp 5] Try.func69 fun hwf hbel => ?_; simp only [h1', h2',Try.f69, push_cast, ↓EPM, ↓reduceIte, seval, reduceCtorEq]
      refine p1.use ?_
      simp only [push_cast, ↓EPM, ↓reduceIte, seval, reduceCtorEq]
      refine p2.use ?_
      simp only [push_cast, ↓EPM, ↓reduceIte, seval, reduceCtorEq]
      exact RetP [.agg (Cell.av ⟨a.n + b.n, a.s + b.s, if b.lo.toInt < a.lo.toInt then b.lo else a.lo, if b.hi.toInt > a.hi.toInt then b.hi else a.hi⟩), boo true]
    · rw [show mergeC a b = none by simp [mergeC, h1, h2, o2]]
      have o2 : addOk a.s b.s = false := by simpa using o2
      simp only [o1, o2, if_true, if_false, Bool.false_eq_true] at p1 p2
      refine enterA ⟨[2,3]⟩ (Try.f69.body.getD .skip) [.cell 4 44, .tmp 5] Try.func69 fun hwf hbel => ?_; simp only [h1', h2',Try.f69, push_cast, ↓EPM, ↓reduceIte, seval, reduceCtorEq]
      refine p1.use ?_
      simp only [push_cast, ↓EPM, ↓reduceIte, seval, reduceCtorEq]
      refine p2.use ?_
      simp only [push_cast, ↓EPM, ↓reduceIte, seval, reduceCtorEq]
      exact RetP [.agg zeroC.av, boo false]
  · rw [show mergeC a b = none by simp [mergeC, h1, h2, o1]]
    have o1 : addOk a.n b.n = false := by simpa using o1
    simp only [o1, if_false, Bool.false_eq_true] at p1
    refine enterA ⟨[2,3]⟩ (Try.f69.body.getD .skip) [.cell 4 44, .tmp 5] Try.func69 fun hwf hbel => ?_; simp only [h1', h2',Try.f69, push_cast, ↓EPM, ↓reduceIte, seval, reduceCtorEq]
    refine p1.use ?_
    simp only [push_cast, ↓EPM, ↓reduceIte, seval, reduceCtorEq]
    refine p2.use ?_
    by_cases o2 : addOk a.s b.s = true
    · simp only [o2, push_cast, ↓EPM, ↓reduceIte, seval, reduceCtorEq]
      exact RetP [.agg zeroC.av, boo false]
    · have o2 : addOk a.s b.s = false := by simpa using o2
      simp only [o2, push_cast, ↓EPM, ↓reduceIte, seval, reduceCtorEq]
      exact RetP [.agg zeroC.av, boo false]


end Go.Proofs

namespace Go.Proofs
open Go Go.Av
set_option linter.unusedSimpArgs false
set_option linter.unusedVariables false
set_option maxRecDepth 30000

def cmpI (a b : Int) : Int := if a < b then -1 else if b < a then 1 else 0
def cmpB (a b : ByteArray) : Int := if Op.bytesLess a.toList b.toList then -1 else if a.toList == b.toList then 0 else 1
def cmpL : List ByteArray → List ByteArray → Int
  | [], [] => 0
  | [], _ :: _ => -1
  | _ :: _, [] => 1
  | a :: x, b :: y => if cmpB a b = 0 then cmpL x y else cmpB a b
def strs (l : List ByteArray) : List (List AV) := l.map fun x => [str x]

theorem less_irrefl : ∀ l : List UInt8, Op.bytesLess l l = false
  | [] => rfl
  | a :: l => by simp [Op.bytesLess, less_irrefl l]

theorem nan_spec (a : Int) : APure Try.prog 128 [i64 a] (boo false) := by
  intro s
  refine enterA ⟨[]⟩ (Try.f128.body.getD .skip) [.tmp 2] Try.func128 fun hwf hbel => ?_; simp only [Try.f128, push_cast, ↓EPM, ↓reduceIte, seval, reduceCtorEq]
  exact RetP [boo false]

theorem cmp_spec (a b : Int) : APure Try.prog 99 [i64 a, i64 b] (i64 (cmpI a b)) := by
  intro s
  refine enterA ⟨[]⟩ (Try.f99.body.getD .skip) [.tmp 4] Try.func99 fun hwf hbel => ?_; simp only [Try.f99, push_cast, ↓EPM, ↓reduceIte, seval, reduceCtorEq]
  refine (nan_spec a).use ?_
  simp only [push_cast, ↓EPM, ↓reduceIte, seval, reduceCtorEq]
  refine (nan_spec b).use ?_
  simp only [push_cast, ↓EPM, ↓reduceIte, seval, reduceCtorEq]
  refine condK_b (fun hb => ?_) (fun hb => ?_)
  · simp only [decide_eq_true_eq] at hb
    simp only [push_cast, ↓EPM, ↓reduceIte, seval, reduceCtorEq]
    rw [show cmpI a b = -1 by simp [cmpI, hb]]
    exact RetP [i64 (-1)]
  · simp only [decide_eq_false_iff_not] at hb
    simp only [push_cast, ↓EPM, ↓reduceIte, seval, reduceCtorEq]
    refine condK_b (fun hc => ?_) (fun hc => ?_)
    · simp only [decide_eq_true_eq] at hc
      simp only [push_cast, ↓EPM, ↓reduceIte, seval, reduceCtorEq]
      rw [show cmpI a b = 1 by simp [cmpI, hb, hc]]
      exact RetP [i64 1]
    · simp only [decide_eq_false_iff_not] at hc
      simp only [push_cast, ↓EPM, ↓reduceIte, seval, reduceCtorEq]
      rw [show cmpI a b = 0 by simp [cmpI, hb, hc]]
      exact RetP [i64 0]

theorem nans_spec (a : ByteArray) : APure Try.prog 150 [str a] (boo false) := by
  intro s
  refine enterA ⟨[]⟩ (Try.f150.body.getD .skip) [.tmp 2] Try.func150 fun hwf hbel => ?_; simp only [beq_self_eq_true,Try.f150, push_cast, ↓EPM, ↓reduceIte, seval, reduceCtorEq]
  exact RetP [boo false]

theorem cmps_spec (a b : ByteArray) : APure Try.prog 129 [str a, str b] (i64 (cmpB a b)) := by
  intro s
  refine enterA ⟨[]⟩ (Try.f129.body.getD .skip) [.tmp 4] Try.func129 fun hwf hbel => ?_; simp only [Try.f129, push_cast, ↓EPM, ↓reduceIte, seval, reduceCtorEq]
  refine (nans_spec a).use ?_
  simp only [push_cast, ↓EPM, ↓reduceIte, seval, reduceCtorEq]
  refine (nans_spec b).use ?_
  by_cases hb : Op.bytesLess a.toList b.toList = true
  · simp only [hb, push_cast, ↓EPM, ↓reduceIte, seval, reduceCtorEq]
    rw [show cmpB a b = -1 by simp [cmpB, hb]]
    exact RetP [i64 (-1)]
  · have hb : Op.bytesLess a.toList b.toList = false := by simpa using hb
    by_cases hc : (a.toList == b.toList) = true
    · simp only [hb, hc, push_cast, ↓EPM, ↓reduceIte, seval, reduceCtorEq]
      rw [show cmpB a b = 0 by simp only [cmpB, hb, hc]; rfl]
      exact RetP [i64 0]
    · have hc : (a.toList == b.toList) = false := by simpa using hc
      simp only [hb, hc, push_cast, ↓EPM, ↓reduceIte, seval, reduceCtorEq]
      rw [show cmpB a b = 1 by simp only [cmpB, hb, hc]; rfl]
      exact RetP [i64 1]

theorem strs_len (l : List ByteArray) : (strs l).length = l.length := by simp [strs]
theorem strs_get {l : List ByteArray} {i : Nat} {x : ByteArray} (h : l[i]? = some x) : (strs l).getD i [] = [str x] := by simp [strs, List.getD_eq_getElem?_getD, h]
theorem drop_get {α : Type} {l : List α} {i : Nat} {x : α} (h : l[i]? = some x) : l.drop i = x :: l.drop (i + 1) := by
  obtain ⟨h1, rfl⟩ := List.getElem?_eq_some_iff.1 h
  exact List.drop_eq_getElem_cons h1

theorem cmpl_spec (l m : List ByteArray) (hl : l.length ≤ 1000000) : APure Try.prog 100 [.sl 1 (strs l) .none, .sl 1 (strs m) .none] (i64 (cmpL l m)) := by
  intro s
  generalize hr : cmpL l m = r
  refine enterA ⟨[]⟩ (Try.f100.body.getD .skip) [.tmp 4] Try.func100 fun hwf hbel => ?_; simp only [strs_len,Try.f100, push_cast, ↓EPM, ↓reduceIte, seval, reduceCtorEq]
  refine ALoop_inv (ι := Nat) (fun i => i ≤ l.length ∧ r = cmpL (l.drop i) (m.drop i)) (fun i => envL [(0, .sl 1 (strs l) .none), (1, .sl 1 (strs m) .none), (9, .sl 1 (strs l) .none), (10, i64 l.length), (11, i64 i)]) (fun _ => { s with base := ⟨s.next, []⟩ }) (fun i => l.length - i) 0 ⟨Nat.zero_le _, by rw [← hr]; rfl⟩ (ent rfl ?_) (fun i hi => ?_)
  · simp only [push_cast, ↓EPM, ↓reduceIte, seval, reduceCtorEq]
  · obtain ⟨hi, hcmp⟩ := hi
    by_cases hlt : i < l.length
    · have hc : ((i : Int) < (l.length : Int)) := by omega
      have h0 : (0 : Int) ≤ (i : Int) := by omega
      obtain ⟨x, hx⟩ : ∃ x, l[i]? = some x := ⟨_, List.getElem?_eq_getElem hlt⟩
      have gx := strs_get hx
      rw [drop_get hx] at hcmp
      have hw : IntKind.i64.wrap ((i : Int) + 1) = (i : Int) + 1 := wrap_in (by omega) (by omega)
      by_cases hlm : i < m.length
      · have hd : ¬ ((m.length : Int) ≤ (i : Int)) := by omega
        have hd' : ((i : Int) < (m.length : Int)) := by omega
        obtain ⟨y, hy⟩ : ∃ x, m[i]? = some x := ⟨_, List.getElem?_eq_getElem hlm⟩
        have gy := strs_get hy
        rw [drop_get hy] at hcmp
        simp only [hc, hd, hd', h0, gx, gy, strs_len, push_cast, ↓EPM, ↓reduceIte, seval, reduceCtorEq]
        refine (cmps_spec x y).use ?_
        by_cases hq : cmpB x y = 0
        · simp only [hq, push_cast, ↓EPM, ↓reduceIte, seval, reduceCtorEq]
          simp only [cmpL, hq, if_true] at hcmp
          simp only [hw, push_cast, ↓EPM, ↓reduceIte, seval, reduceCtorEq]
          refine round_next (i + 1) ⟨by omega, hcmp⟩ (by omega) (ent rfl ?_)
          simp only [push_cast, ↓EPM, ↓reduceIte, seval, reduceCtorEq]
        · simp only [hq, push_cast, ↓EPM, ↓reduceIte, seval, reduceCtorEq]
          rw [show r = cmpB x y by simpa [cmpL, hq] using hcmp]
          exact RetP [i64 (cmpB x y)]
      · have hd : ((m.length : Int) ≤ (i : Int)) := by omega
        simp only [hc, hd, h0, gx, strs_len, push_cast, ↓EPM, ↓reduceIte, seval, reduceCtorEq]
        rw [show r = 1 by rw [hcmp, List.drop_eq_nil_of_le (by omega : m.length ≤ i), cmpL]]
        exact RetP [i64 1]
    · have hc : ¬ ((i : Int) < (l.length : Int)) := by omega
      have e1 : l.drop i = [] := List.drop_eq_nil_of_le (by omega)
      by_cases hlm : i < m.length
      · have hd : ((l.length : Int) < (m.length : Int)) := by omega
        obtain ⟨y, hy⟩ : ∃ x, m[i]? = some x := ⟨_, List.getElem?_eq_getElem hlm⟩
        simp only [hc, hd, strs_len, push_cast, ↓EPM, ↓reduceIte, seval, reduceCtorEq]
        rw [show r = -1 by rw [hcmp, e1, drop_get hy, cmpL]]
        exact RetP [i64 (-1)]
      · have hd : ¬ ((l.length : Int) < (m.length : Int)) := by omega
        simp only [hc, hd, strs_len, push_cast, ↓EPM, ↓reduceIte, seval, reduceCtorEq]
        rw [show r = 0 by rw [hcmp, e1, List.drop_eq_nil_of_le (by omega : m.length ≤ i), cmpL]]
        exact RetP [i64 0]
end Go.Proofs

namespace Go.Proofs
open Go Go.Av
set_option linter.unusedSimpArgs false
set_option linter.unusedVariables false
set_option maxRecDepth 30000

def ints (l : List Int) : List (List AV) := l.map fun x => [i64 x]
def orI : List Int → Int
  | [] => 0
  | a :: l => if a = 0 then orI l else a
theorem ints_len (l : List Int) : (ints l).length = l.length := by simp [ints]
theorem ints_get {l : List Int} {i : Nat} {x : Int} (h : l[i]? = some x) : (ints l).getD i [] = [i64 x] := by simp [ints, List.getD_eq_getElem?_getD, h]

theorem or_spec (l : List Int) (hl : l.length ≤ 1000000) : APure Try.prog 98 [.sl 1 (ints l) .none] (i64 (orI l)) := by
  intro s
  generalize hr : orI l = r
  refine enterA ⟨[]⟩ (Try.f98.body.getD .skip) [.tmp 2] Try.func98 fun hwf hbel => ?_; simp only [ints_len,Try.f98, push_cast, ↓EPM, ↓reduceIte, seval, reduceCtorEq]
  refine ALoop_inv (ι := Nat) (fun i => i ≤ l.length ∧ r = orI (l.drop i)) (fun i => envL [(0, .sl 1 (ints l) .none), (3, i64 0), (6, .sl 1 (ints l) .none), (7, i64 l.length), (8, i64 i)]) (fun _ => { s with base := ⟨s.next, []⟩ }) (fun i => l.length - i) 0 ⟨Nat.zero_le _, by rw [← hr]; rfl⟩ (ent rfl ?_) (fun i hi => ?_)
  · simp only [push_cast, ↓EPM, ↓reduceIte, seval, reduceCtorEq]
  · obtain ⟨hi, hcmp⟩ := hi
    by_cases hlt : i < l.length
    · have hc : ((i : Int) < (l.length : Int)) := by omega
      have h0 : (0 : Int) ≤ (i : Int) := by omega
      obtain ⟨x, hx⟩ : ∃ x, l[i]? = some x := ⟨_, List.getElem?_eq_getElem hlt⟩
      have gx := ints_get hx
      rw [drop_get hx, orI] at hcmp
      have hw : IntKind.i64.wrap ((i : Int) + 1) = (i : Int) + 1 := wrap_in (by omega) (by omega)
      by_cases hq : x = 0
      · subst hq
        simp only [if_true] at hcmp
        simp only [hc, h0, gx, ints_len, hw, push_cast, ↓EPM, ↓reduceIte, seval, reduceCtorEq]
        refine round_next (i + 1) ⟨by omega, hcmp⟩ (by omega) (ent rfl ?_)
        simp only [push_cast, ↓EPM, ↓reduceIte, seval, reduceCtorEq]
      · simp only [hq, if_false] at hcmp
        subst hcmp
        simp only [hc, h0, gx, ints_len, hw, hq, push_cast, ↓EPM, ↓reduceIte, seval, reduceCtorEq]
        exact RetP [i64 r]
    · have hc : ¬ ((i : Int) < (l.length : Int)) := by omega
      simp only [hc, push_cast, ↓EPM, ↓reduceIte, seval, reduceCtorEq]
      rw [show r = 0 by rw [hcmp, List.drop_eq_nil_of_le (by omega), orI]]
      exact RetP [i64 0]

def Key.dims (k : Key) : List ByteArray := [k.a, k.b, k.c, k.d]
def cmpK (x y : Key) : Int := if cmpI x.h.toInt y.h.toInt = 0 then cmpL x.dims y.dims else cmpI x.h.toInt y.h.toInt

theorem fcmp_spec (x y : Key) : APure Try.prog 50 [.agg x.av, .agg y.av] (i64 (cmpK x y)) := by
  intro s
  refine enterA ⟨[2,3]⟩ (Try.f50.body.getD .skip) [.tmp 4] Try.func50 fun hwf hbel => ?_; simp only [Try.f50, push_cast, ↓EPM, ↓reduceIte, seval, reduceCtorEq]
  refine drawA mixed ?_; simp only [push_cast, ↓EPM, ↓reduceIte, seval, reduceCtorEq]
  refine qcall (cmp_spec x.h.toInt y.h.toInt) rfl (by simp only [push_cast, ↓EPM, ↓reduceIte, seval, reduceCtorEq] <;> rfl) ?_; simp only [push_cast, ↓EPM, ↓reduceIte, seval, reduceCtorEq]
  refine qcall (cmpl_spec x.dims y.dims (by simp [Key.dims])) rfl (by simp only [push_cast, ↓EPM, ↓reduceIte, seval, reduceCtorEq] <;> rfl) ?_; simp only [push_cast, ↓EPM, ↓reduceIte, seval, reduceCtorEq]
  refine qcall (or_spec [cmpI x.h.toInt y.h.toInt, cmpL x.dims y.dims] (by simp)) rfl (by simp only [push_cast, ↓EPM, ↓reduceIte, seval, reduceCtorEq] <;> rfl) ?_; simp only [push_cast, ↓EPM, ↓reduceIte, seval, reduceCtorEq]
  rw [show cmpK x y = orI [cmpI x.h.toInt y.h.toInt, cmpL x.dims y.dims] by simp only [orI, cmpK]; split <;> rename_i h <;> simp [h]]
  exact RetP [i64 (orI [cmpI x.h.toInt y.h.toInt, cmpL x.dims y.dims])]

theorem cmpB_cases (a b : ByteArray) : (cmpB a b = -1 ∧ Op.bytesLess a.toList b.toList = true) ∨ (cmpB a b = 0 ∧ Op.bytesLess a.toList b.toList = false ∧ (a.toList == b.toList) = true) ∨
    (cmpB a b = 1 ∧ Op.bytesLess a.toList b.toList = false ∧ (a.toList == b.toList) = false) := by
  unfold cmpB
  cases h1 : Op.bytesLess a.toList b.toList
  · cases h2 : a.toList == b.toList
    · exact .inr (.inr ⟨rfl, rfl, rfl⟩)
    · exact .inr (.inl ⟨rfl, rfl, rfl⟩)
  · exact .inl ⟨rfl, rfl⟩

theorem rcmp_spec (x y : Key) : APure Try.prog 55 [.agg x.av, .agg y.av] (i64 (cmpK x y)) := by
  intro s
  generalize hr : cmpK x y = r
  unfold cmpK at hr
  by_cases hh : x.h.toInt = y.h.toInt
  · rw [if_pos (by simp [cmpI, hh])] at hr
    refine enterA ⟨[2,3]⟩ (Try.f55.body.getD .skip) [.tmp 4] Try.func55 fun hwf hbel => ?_; simp only [hh,Try.f55, push_cast, ↓EPM, ↓reduceIte, seval, reduceCtorEq]
    refine ALoop_inv (ι := Nat) (fun i => i ≤ 4 ∧ r = cmpL (x.dims.drop i) (y.dims.drop i)) (fun i => envL [(2, .ep x.av 0), (3, .ep y.av 0), (5, i64 i)]) (fun _ => { s with base := ⟨s.next, []⟩ }) (fun i => 4 - i) 0 ⟨Nat.zero_le _, by rw [← hr]; rfl⟩ (ent rfl ?_) (fun i hi => ?_)
    · simp only [hh, push_cast, ↓EPM, ↓reduceIte, seval, reduceCtorEq]
    · obtain ⟨hi, hcmp⟩ := hi
      obtain rfl | rfl | rfl | rfl | rfl : i = 0 ∨ i = 1 ∨ i = 2 ∨ i = 3 ∨ i = 4 := by omega
      · rcases cmpB_cases x.a y.a with ⟨e, q⟩ | ⟨e, q, q'⟩ | ⟨e, q, q'⟩
        · simp only [push_cast, ↓EPM, ↓reduceIte, seval, reduceCtorEq]; refine drawA mixed ?_; simp only [q, push_cast, ↓EPM, ↓reduceIte, seval, reduceCtorEq]
          rw [show r = -1 by rw [hcmp]; simp [Key.dims, cmpL, e]]
          exact RetP [i64 (-1)]
        · simp only [push_cast, ↓EPM, ↓reduceIte, seval, reduceCtorEq]; refine drawA mixed ?_; simp only [q, q', push_cast, ↓EPM, ↓reduceIte, seval, reduceCtorEq]; refine drawA mixed ?_; simp only [q, q', push_cast, ↓EPM, ↓reduceIte, seval, reduceCtorEq]
          have hw : IntKind.i64.wrap ((0 : Int) + 1) = (0 : Int) + 1 := wrap_in (by omega) (by omega)
          simp only [Int.reduceAdd] at hw
          simp only [hw, push_cast, ↓EPM, ↓reduceIte, seval, reduceCtorEq]
          refine round_next 1 ⟨by omega, by rw [hcmp]; simp [Key.dims, cmpL, e]⟩ (by omega) (ent rfl ?_)
          simp only [push_cast, ↓EPM, ↓reduceIte, seval, reduceCtorEq]
        · simp only [push_cast, ↓EPM, ↓reduceIte, seval, reduceCtorEq]; refine drawA mixed ?_; simp only [q, q', push_cast, ↓EPM, ↓reduceIte, seval, reduceCtorEq]; refine drawA mixed ?_; simp only [q, q', push_cast, ↓EPM, ↓reduceIte, seval, reduceCtorEq]
          rw [show r = 1 by rw [hcmp]; simp [Key.dims, cmpL, e]]
          exact RetP [i64 1]
      · rcases cmpB_cases x.b y.b with ⟨e, q⟩ | ⟨e, q, q'⟩ | ⟨e, q, q'⟩
        · simp only [push_cast, ↓EPM, ↓reduceIte, seval, reduceCtorEq]; refine drawA mixed ?_; simp only [q, push_cast, ↓EPM, ↓reduceIte, seval, reduceCtorEq]
          rw [show r = -1 by rw [hcmp]; simp [Key.dims, cmpL, e]]
          exact RetP [i64 (-1)]
        · simp only [push_cast, ↓EPM, ↓reduceIte, seval, reduceCtorEq]; refine drawA mixed ?_; simp only [q, q', push_cast, ↓EPM, ↓reduceIte, seval, reduceCtorEq]; refine drawA mixed ?_; simp only [q, q', push_cast, ↓EPM, ↓reduceIte, seval, reduceCtorEq]
          have hw : IntKind.i64.wrap ((1 : Int) + 1) = (1 : Int) + 1 := wrap_in (by omega) (by omega)
          simp only [Int.reduceAdd] at hw
          simp only [hw, push_cast, ↓EPM, ↓reduceIte, seval, reduceCtorEq]
          refine round_next 2 ⟨by omega, by rw [hcmp]; simp [Key.dims, cmpL, e]⟩ (by omega) (ent rfl ?_)
          simp only [push_cast, ↓EPM, ↓reduceIte, seval, reduceCtorEq]
        · simp only [push_cast, ↓EPM, ↓reduceIte, seval, reduceCtorEq]; refine drawA mixed ?_; simp only [q, q', push_cast, ↓EPM, ↓reduceIte, seval, reduceCtorEq]; refine drawA mixed ?_; simp only [q, q', push_cast, ↓EPM, ↓reduceIte, seval, reduceCtorEq]
          rw [show r = 1 by rw [hcmp]; simp [Key.dims, cmpL, e]]
          exact RetP [i64 1]
      · rcases cmpB_cases x.c y.c with ⟨e, q⟩ | ⟨e, q, q'⟩ | ⟨e, q, q'⟩
        · simp only [push_cast, ↓EPM, ↓reduceIte, seval, reduceCtorEq]; refine drawA mixed ?_; simp only [q, push_cast, ↓EPM, ↓reduceIte, seval, reduceCtorEq]
          rw [show r = -1 by rw [hcmp]; simp [Key.dims, cmpL, e]]
          exact RetP [i64 (-1)]
        · simp only [push_cast, ↓EPM, ↓reduceIte, seval, reduceCtorEq]; refine drawA mixed ?_; simp only [q, q', push_cast, ↓EPM, ↓reduceIte, seval, reduceCtorEq]; refine drawA mixed ?_; simp only [q, q', push_cast, ↓EPM, ↓reduceIte, seval, reduceCtorEq]
          have hw : IntKind.i64.wrap ((2 : Int) + 1) = (2 : Int) + 1 := wrap_in (by omega) (by omega)
          simp only [Int.reduceAdd] at hw
          simp only [hw, push_cast, ↓EPM, ↓reduceIte, seval, reduceCtorEq]
          refine round_next 3 ⟨by omega, by rw [hcmp]; simp [Key.dims, cmpL, e]⟩ (by omega) (ent rfl ?_)
          simp only [push_cast, ↓EPM, ↓reduceIte, seval, reduceCtorEq]
        · simp only [push_cast, ↓EPM, ↓reduceIte, seval, reduceCtorEq]; refine drawA mixed ?_; simp only [q, q', push_cast, ↓EPM, ↓reduceIte, seval, reduceCtorEq]; refine drawA mixed ?_; simp only [q, q', push_cast, ↓EPM, ↓reduceIte, seval, reduceCtorEq]
          rw [show r = 1 by rw [hcmp]; simp [Key.dims, cmpL, e]]
          exact RetP [i64 1]
      · rcases cmpB_cases x.d y.d with ⟨e, q⟩ | ⟨e, q, q'⟩ | ⟨e, q, q'⟩
        · simp only [push_cast, ↓EPM, ↓reduceIte, seval, reduceCtorEq]; refine drawA mixed ?_; simp only [q, push_cast, ↓EPM, ↓reduceIte, seval, reduceCtorEq]
          rw [show r = -1 by rw [hcmp]; simp [Key.dims, cmpL, e]]
          exact RetP [i64 (-1)]
        · simp only [push_cast, ↓EPM, ↓reduceIte, seval, reduceCtorEq]; refine drawA mixed ?_; simp only [q, q', push_cast, ↓EPM, ↓reduceIte, seval, reduceCtorEq]; refine drawA mixed ?_; simp only [q, q', push_cast, ↓EPM, ↓reduceIte, seval, reduceCtorEq]
          have hw : IntKind.i64.wrap ((3 : Int) + 1) = (3 : Int) + 1 := wrap_in (by omega) (by omega)
          simp only [Int.reduceAdd] at hw
          simp only [hw, push_cast, ↓EPM, ↓reduceIte, seval, reduceCtorEq]
          refine round_next 4 ⟨by omega, by rw [hcmp]; simp [Key.dims, cmpL, e]⟩ (by omega) (ent rfl ?_)
          simp only [push_cast, ↓EPM, ↓reduceIte, seval, reduceCtorEq]
        · simp only [push_cast, ↓EPM, ↓reduceIte, seval, reduceCtorEq]; refine drawA mixed ?_; simp only [q, q', push_cast, ↓EPM, ↓reduceIte, seval, reduceCtorEq]; refine drawA mixed ?_; simp only [q, q', push_cast, ↓EPM, ↓reduceIte, seval, reduceCtorEq]
          rw [show r = 1 by rw [hcmp]; simp [Key.dims, cmpL, e]]
          exact RetP [i64 1]
      · simp only [push_cast, ↓EPM, ↓reduceIte, seval, reduceCtorEq]
        subst hcmp
        exact RetP [i64 0]
  · by_cases hl : x.h.toInt < y.h.toInt
    · rw [if_neg (by simp [cmpI, hl])] at hr
      refine enterA ⟨[2,3]⟩ (Try.f55.body.getD .skip) [.tmp 4] Try.func55 fun hwf hbel => ?_; simp only [hh, hl,Try.f55, push_cast, ↓EPM, ↓reduceIte, seval, reduceCtorEq]
      rw [show r = -1 by rw [← hr]; simp [cmpI, hl]]
      exact RetP [i64 (-1)]
    · have hg : y.h.toInt < x.h.toInt := by omega
      rw [if_neg (by simp [cmpI, hl, hg])] at hr
      refine enterA ⟨[2,3]⟩ (Try.f55.body.getD .skip) [.tmp 4] Try.func55 fun hwf hbel => ?_; simp only [hh, hl,Try.f55, push_cast, ↓EPM, ↓reduceIte, seval, reduceCtorEq]
      rw [show r = 1 by rw [← hr]; simp [cmpI, hl, hg]]
      exact RetP [i64 1]

end Go.Proofs

namespace Go.Proofs
open Go Go.Av
set_option linter.unusedSimpArgs false
set_option linter.unusedVariables false
set_option maxRecDepth 30000

theorem i64_beq (a b : Int64) : (a.toInt == b.toInt) = decide (a = b) := by
  by_cases h : a = b
  · simp [h]
  · have : a.toInt ≠ b.toInt := fun e => h (Int64.toInt_inj.1 e)
    simp [h, this]
theorem str_beq (a b : ByteArray) : (a.toList == b.toList) = decide (a = b) := by
  by_cases h : a = b
  · simp [h]
  · have : a.toList ≠ b.toList := fun e => h (by
      rw [ByteArray.toList_eq, ByteArray.toList_eq] at e
      exact ByteArray.ext (Array.toList_inj.1 e))
    simp [h, this]

theorem cell_beq (c d : Cell) : ((c.n.toInt == d.n.toInt) && ((c.s.toInt == d.s.toInt) && ((c.lo.toInt == d.lo.toInt) && ((c.hi.toInt == d.hi.toInt) && true)))) = decide (c = d) := by
  obtain ⟨a1, a2, a3, a4⟩ := c
  obtain ⟨b1, b2, b3, b4⟩ := d
  simp only [i64_beq, Bool.and_true, Cell.mk.injEq]
  rw [Bool.eq_iff_iff]; simp
theorem key_beq (c d : Key) : ((c.h.toInt == d.h.toInt) && (((c.a.toList == d.a.toList) && ((c.b.toList == d.b.toList) && ((c.c.toList == d.c.toList) && ((c.d.toList == d.d.toList) && true)))) && true)) = decide (c = d) := by
  obtain ⟨a1, a2, a3, a4, a5⟩ := c
  obtain ⟨b1, b2, b3, b4, b5⟩ := d
  simp only [i64_beq, str_beq, Bool.and_true, Key.mk.injEq]
  rw [Bool.eq_iff_iff]; simp

theorem aeq_cell (c d : Cell) : AEq Try.prog 44 (.agg c.av) (.agg d.av) (decide (c = d)) := by
  rw [← cell_beq]
  exact AEq_agg (by kernel_rfl) (by kernel_rfl)
theorem aeq_key (c d : Key) : AEq Try.prog 39 (.agg c.av) (.agg d.av) (decide (c = d)) := by
  rw [← key_beq]
  exact AEq_agg (by kernel_rfl) (by kernel_rfl)
theorem row_beq (c d : Row) : (((c.k.h.toInt == d.k.h.toInt) && (((c.k.a.toList == d.k.a.toList) && ((c.k.b.toList == d.k.b.toList) && ((c.k.c.toList == d.k.c.toList) && ((c.k.d.toList == d.k.d.toList) && true)))) && true)) &&
    (((c.c.n.toInt == d.c.n.toInt) && ((c.c.s.toInt == d.c.s.toInt) && ((c.c.lo.toInt == d.c.lo.toInt) && ((c.c.hi.toInt == d.c.hi.toInt) && true)))) && true)) = decide (c = d) := by
  obtain ⟨⟨a1, a2, a3, a4, a5⟩, ⟨a6, a7, a8, a9⟩⟩ := c
  obtain ⟨⟨b1, b2, b3, b4, b5⟩, ⟨b6, b7, b8, b9⟩⟩ := d
  simp only [i64_beq, str_beq, Bool.and_true, Row.mk.injEq, Key.mk.injEq, Cell.mk.injEq]
  rw [Bool.eq_iff_iff]; simp
theorem aeq_row (c d : Row) : AEq Try.prog 66 (.agg c.av) (.agg d.av) (decide (c = d)) := by
  rw [← row_beq]
  exact AEq_agg (by kernel_rfl) (by kernel_rfl)
def Cell.right (c : Cell) : Bool :=
  if c.n = 0 then decide (c = zeroC) else if c.n = 1 then decide (c = ⟨1, c.s, c.s, c.s⟩) else decide (0 < c.n.toInt) && decide (c.lo.toInt ≤ c.hi.toInt)

theorem i6_one (a : Int64) : (a.toInt = 1) ↔ a = 1 := by
  rw [← Int64.toInt_inj]; rfl

theorem of_spec (a : Int64) : APure Try.prog 47 [i6 a] (.agg (Cell.av ⟨1, a, a, a⟩)) := by
  intro s
  refine enterA ⟨[]⟩ (Try.f47.body.getD .skip) [.cell 2 44] Try.func47 fun hwf hbel => ?_; simp only [Try.f47, push_cast, ↓EPM, ↓reduceIte, seval, reduceCtorEq]
  exact RetP [.agg (Cell.av ⟨1, a, a, a⟩)]

theorem rof_spec (a : Int64) : APure Try.prog 52 [i6 a] (.agg (Cell.av ⟨1, a, a, a⟩)) := by
  intro s
  refine enterA ⟨[]⟩ (Try.f52.body.getD .skip) [.cell 2 44] Try.func52 fun hwf hbel => ?_; simp only [Try.f52, push_cast, ↓EPM, ↓reduceIte, seval, reduceCtorEq]
  exact RetP [.agg (Cell.av ⟨1, a, a, a⟩)]

theorem right_spec (c : Cell) : APure Try.prog 53 [.agg c.av] (boo c.right) := by
  intro s
  by_cases h0 : c.n = 0
  · have h0' : decide (c.n.toInt = 0) = true := by simp [(i6_zero c.n).2 h0]
    rw [show c.right = decide (c = zeroC) by simp [Cell.right, h0]]
    refine enterA ⟨[1]⟩ (Try.f53.body.getD .skip) [.tmp 2] Try.func53 fun hwf hbel => ?_; simp only [h0',Try.f53, push_cast, ↓EPM, ↓reduceIte, seval, reduceCtorEq]
    refine eqK_use (aeq_cell c zeroC) ?_
    simp only [push_cast, ↓EPM, ↓reduceIte, seval, reduceCtorEq]
    exact RetP [boo (decide (c = zeroC))]
  have h0' : decide (c.n.toInt = 0) = false := by rw [decide_eq_false_iff_not]; exact fun h => h0 ((i6_zero c.n).1 h)
  by_cases h1 : c.n = 1
  · have h1' : decide (c.n.toInt = 1) = true := by simp [(i6_one c.n).2 h1]
    rw [show c.right = decide (c = ⟨1, c.s, c.s, c.s⟩) by simp [Cell.right, h1]]
    refine enterA ⟨[1]⟩ (Try.f53.body.getD .skip) [.tmp 2] Try.func53 fun hwf hbel => ?_; simp only [h0', h1',Try.f53, push_cast, ↓EPM, ↓reduceIte, seval, reduceCtorEq]
    refine drawA mixed ?_; simp only [push_cast, ↓EPM, ↓reduceIte, seval, reduceCtorEq]
    refine qcall (of_spec c.s) rfl (by simp only [push_cast, ↓EPM, ↓reduceIte, seval, reduceCtorEq] <;> rfl) ?_; simp only [push_cast, ↓EPM, ↓reduceIte, seval, reduceCtorEq]
    refine eqK_use (aeq_cell c ⟨1, c.s, c.s, c.s⟩) ?_
    simp only [push_cast, ↓EPM, ↓reduceIte, seval, reduceCtorEq]
    exact RetP [boo (decide (c = ⟨1, c.s, c.s, c.s⟩))]
  have h1' : decide (c.n.toInt = 1) = false := by rw [decide_eq_false_iff_not]; exact fun h => h1 ((i6_one c.n).1 h)
  rw [show c.right = (decide (0 < c.n.toInt) && decide (c.lo.toInt ≤ c.hi.toInt)) by simp [Cell.right, h0, h1]]
  by_cases h2 : 0 < c.n.toInt
  · refine enterA ⟨[1]⟩ (Try.f53.body.getD .skip) [.tmp 2] Try.func53 fun hwf hbel => ?_; simp only [h0', h1', h2,Try.f53, push_cast, ↓EPM, ↓reduceIte, seval, reduceCtorEq]
    exact RetP [boo (decide (c.lo.toInt ≤ c.hi.toInt))]
  · simp only [h2]
    refine enterA ⟨[1]⟩ (Try.f53.body.getD .skip) [.tmp 2] Try.func53 fun hwf hbel => ?_; simp only [h0', h1', h2,Try.f53, push_cast, ↓EPM, ↓reduceIte, seval, reduceCtorEq]
    exact RetP [boo false]

theorem rright_spec (c : Cell) : APure Try.prog 56 [.agg c.av] (boo c.right) := by
  intro s
  by_cases h0 : c.n = 0
  · have h0' : decide (c.n.toInt = 0) = true := by simp [(i6_zero c.n).2 h0]
    rw [show c.right = decide (c = zeroC) by simp [Cell.right, h0]]
    refine enterA ⟨[1]⟩ (Try.f56.body.getD .skip) [.tmp 2] Try.func56 fun hwf hbel => ?_; simp only [h0',Try.f56, push_cast, ↓EPM, ↓reduceIte, seval, reduceCtorEq]
    refine eqK_use (aeq_cell c zeroC) ?_
    simp only [push_cast, ↓EPM, ↓reduceIte, seval, reduceCtorEq]
    exact RetP [boo (decide (c = zeroC))]
  have h0' : decide (c.n.toInt = 0) = false := by rw [decide_eq_false_iff_not]; exact fun h => h0 ((i6_zero c.n).1 h)
  by_cases h2 : 0 < c.n.toInt
  · by_cases h3 : c.lo.toInt ≤ c.hi.toInt
    · by_cases h1 : c.n = 1
      · have h1' : ¬ 1 < c.n.toInt := by simp [(i6_one c.n).2 h1]
        rw [show c.right = (decide (c.s.toInt = c.lo.toInt) && decide (c.s.toInt = c.hi.toInt)) by
          obtain ⟨n, s, lo, hi⟩ := c
          simp only at h1; subst h1
          simp only [Cell.right, Cell.mk.injEq, Int64.toInt_inj]
          simp only [show ((1 : Int64) = 0) = False by decide, if_false, if_true, true_and]
          rw [Bool.eq_iff_iff]; simp
          constructor
          · rintro ⟨rfl, rfl⟩; exact ⟨rfl, rfl⟩
          · rintro ⟨rfl, rfl⟩; exact ⟨rfl, rfl⟩]
        by_cases h4 : c.s.toInt = c.lo.toInt
        · have h4' : decide (c.s.toInt = c.lo.toInt) = true := by simp [h4]
          simp only [h4', Bool.true_and]
          refine enterA ⟨[1]⟩ (Try.f56.body.getD .skip) [.tmp 2] Try.func56 fun hwf hbel => ?_; simp only [h0', h1', h2, h3, h4',Try.f56, push_cast, ↓EPM, ↓reduceIte, seval, reduceCtorEq]
          exact RetP [boo (decide (c.s.toInt = c.hi.toInt))]
        · simp only [h4]
          refine enterA ⟨[1]⟩ (Try.f56.body.getD .skip) [.tmp 2] Try.func56 fun hwf hbel => ?_; simp only [h0', h1', h2, h3, h4,Try.f56, push_cast, ↓EPM, ↓reduceIte, seval, reduceCtorEq]
          exact RetP [boo false]
      · have h1' : 1 < c.n.toInt := by
          have : c.n.toInt ≠ 1 := fun h => h1 ((i6_one c.n).1 h)
          omega
        rw [show c.right = true by simp [Cell.right, h0, h1, h2, h3]]
        refine enterA ⟨[1]⟩ (Try.f56.body.getD .skip) [.tmp 2] Try.func56 fun hwf hbel => ?_; simp only [h0', h1', h2, h3,Try.f56, push_cast, ↓EPM, ↓reduceIte, seval, reduceCtorEq]
        exact RetP [boo true]
    · have h1 : c.n = 1 → False ∨ c.right = false := fun h1 => .inr (by
        obtain ⟨n, s, lo, hi⟩ := c
        simp only at h1; subst h1
        simp only [Cell.right, Cell.mk.injEq]
        simp only [show ((1 : Int64) = 0) = False by decide, if_false, if_true, true_and]
        rw [decide_eq_false_iff_not]
        rintro ⟨rfl, rfl⟩
        exact h3 (Int.le_refl _))
      rw [show c.right = false by
        by_cases h : c.n = 1
        · exact (h1 h).resolve_left id
        · simp [Cell.right, h0, h, h3]]
      refine enterA ⟨[1]⟩ (Try.f56.body.getD .skip) [.tmp 2] Try.func56 fun hwf hbel => ?_; simp only [h0', h2, h3,Try.f56, push_cast, ↓EPM, ↓reduceIte, seval, reduceCtorEq]
      exact RetP [boo false]
  · rw [show c.right = false by
      have : c.n ≠ 1 := fun h => by rw [h] at h2; exact h2 (by decide)
      simp [Cell.right, h0, this, h2]]
    refine enterA ⟨[1]⟩ (Try.f56.body.getD .skip) [.tmp 2] Try.func56 fun hwf hbel => ?_; simp only [h0', h2,Try.f56, push_cast, ↓EPM, ↓reduceIte, seval, reduceCtorEq]
    exact RetP [boo false]

end Go.Proofs

namespace Go.Proofs
open Go Go.Av
def rowsA (l : List Row) : List (List AV) := l.map Row.av
theorem rowsA_len (l : List Row) : (rowsA l).length = l.length := by simp [rowsA]
theorem rowsA_get {l : List Row} {i : Nat} {x : Row} (h : l[i]? = some x) : (rowsA l).getD i [] = x.av := by simp [rowsA, List.getD_eq_getElem?_getD, h]
def factsA (l : List Fact) : List (List AV) := l.map Fact.av
theorem factsA_len (l : List Fact) : (factsA l).length = l.length := by simp [factsA]
theorem factsA_get {l : List Fact} {i : Nat} {x : Fact} (h : l[i]? = some x) : (factsA l).getD i [] = x.av := by simp [factsA, List.getD_eq_getElem?_getD, h]

/-- A segment: nil, or its rows. -/
def segA : Option (List Row) → AV
  | none => .v (.pointer none)
  | some l => .ep [.sl 9 (rowsA l) .none] 0

theorem untok_segA (o : Option (List Row)) : AV.untok (segA o) = segA o := by cases o <;> rfl
theorem rowsA_nil : rowsA [] = [] := rfl
theorem factsA_nil : factsA [] = [] := rfl
def zeroR : Row := ⟨⟨0, .empty, .empty, .empty, .empty⟩, ⟨0, 0, 0, 0⟩⟩
theorem rowsA_app (l m : List Row) : rowsA l ++ rowsA m = rowsA (l ++ m) := by simp [rowsA]
theorem rowsA_one (x : Row) : [x.av] = rowsA [x] := rfl

theorem take_get {α : Type} {l : List α} {i : Nat} {x : α} (h : l[i]? = some x) : l.take (i + 1) = l.take i ++ [x] := by
  rw [List.take_add_one, h]; rfl
theorem rowsA_take {l : List Row} {i : Nat} {x : Row} (h : l[i]? = some x) : rowsA (l.take (i + 1)) = rowsA (l.take i) ++ [x.av] := by rw [take_get h, ← rowsA_app]; rfl
theorem len_take {α : Type} {l : List α} {i : Nat} (h : i ≤ l.length) : (l.take i).length = i := by rw [List.length_take]; omega

theorem rowsA_bel (n : Nat) (l : List Row) : (∀ x ∈ rowsA l, ∀ c ∈ x, Bel n c) = True := eq_true (by
  simp only [rowsA, List.forall_mem_map, Row.av, List.mem_cons, List.not_mem_nil, or_false, forall_eq_or_imp, forall_eq, Bel_v, and_self, implies_true])
theorem factsA_bel (n : Nat) (l : List Fact) : (∀ x ∈ factsA l, ∀ c ∈ x, Bel n c) = True := eq_true (by
  simp only [factsA, List.forall_mem_map, Fact.av, List.mem_cons, List.not_mem_nil, or_false, forall_eq_or_imp, forall_eq, Bel_v, and_self, implies_true])
theorem segA_bel (n : Nat) (o : Option (List Row)) : Bel n (segA o) = True := eq_true (by
  cases o with
  | none => exact .v _
  | some l => simp only [segA, Bel_ep, List.mem_cons, List.not_mem_nil, or_false, forall_eq, Bel_sl, rowsA_bel, tokBel, and_self])

def resS (o : Option (List Row)) (f : Int) : AV := .tup [segA o, i64 f]
theorem resS_bel (n : Nat) (o : Option (List Row)) (f : Int) : Bel n (resS o f) = True := eq_true (by simp only [resS, Bel_tup, List.mem_cons, List.not_mem_nil, or_false, forall_eq_or_imp, forall_eq, segA_bel, Bel_v, and_self])
attribute [push_cast] untok_segA rowsA_len factsA_len rowsA_nil factsA_nil rowsA_bel factsA_bel segA_bel resS_bel

end Go.Proofs

namespace Go.Proofs
open Go Go.Av
set_option linter.unusedSimpArgs false
set_option linter.unusedVariables false
set_option maxRecDepth 30000

theorem light_spec (l : List Row) : APure Try.prog 13 [.sl 9 (rowsA l) .none] (boo (decide (l.length ≤ 100))) := by
  intro s
  have e : decide ((l.length : Int) ≤ 100) = decide (l.length ≤ 100) := by rw [decide_eq_decide]; omega
  refine enterA ⟨[]⟩ (Try.f13.body.getD .skip) [.tmp 2] Try.func13 fun hwf hbel => ?_; simp only [e,Try.f13, push_cast, ↓EPM, ↓reduceIte, seval, reduceCtorEq]
  exact RetP [boo (decide (l.length ≤ 100))]

theorem rows_spec (o : Option (List Row)) : APure Try.prog 58 [segA o] (.sl 9 (rowsA (o.getD [])) .none) := by
  intro s
  cases o with
  | none =>
    simp only [segA, Option.getD_none]
    refine enterA ⟨[]⟩ (Try.f58.body.getD .skip) [.tmp 2] Try.func58 fun hwf hbel => ?_; simp only [Try.f58, push_cast, ↓EPM, ↓reduceIte, seval, reduceCtorEq]
    refine eqK_use (AEq_nil (e := 89) (by kernel_rfl)) ?_
    simp only [push_cast, ↓EPM, ↓reduceIte, seval, reduceCtorEq]
    exact RetW [.v (.slice none 0 0)] [.sl 9 (rowsA []) .none]
  | some l =>
    simp only [segA]
    refine enterA ⟨[]⟩ (Try.f58.body.getD .skip) [.tmp 2] Try.func58 fun hwf hbel => ?_; simp only [Try.f58, push_cast, ↓EPM, ↓reduceIte, seval, reduceCtorEq]
    refine eqK_use (AEq_ep (e := 89) (by kernel_rfl)) ?_
    simp only [push_cast, ↓EPM, ↓reduceIte, seval, reduceCtorEq]
    exact RetP [.sl 9 (rowsA l) .none]

theorem len_spec (o : Option (List Row)) : APure Try.prog 38 [segA o] (i64 (o.getD []).length) := by
  intro s
  refine enterA ⟨[]⟩ (Try.f38.body.getD .skip) [.tmp 2] Try.func38 fun hwf hbel => ?_; simp only [Try.f38, push_cast, ↓EPM, ↓reduceIte, seval, reduceCtorEq]
  refine (rows_spec o).use ?_
  simp only [push_cast, ↓EPM, ↓reduceIte, seval, reduceCtorEq]
  exact RetP [i64 (o.getD []).length]



theorem at_spec (l : List Row) (i : Nat) (x : Row) (hi : l[i]? = some x) : APure Try.prog 37 [segA (some l), i64 i] (.tup [.agg x.av, boo true]) := by
  intro s
  have hlt := (List.getElem?_eq_some_iff.1 hi).1
  have h0 : ¬ ((i : Int) < 0) := by omega
  have h0' : (0 : Int) ≤ (i : Int) := by omega
  have h1 : ¬ ((l.length : Int) ≤ (i : Int)) := by omega
  have h1' : ((i : Int) < (l.length : Int)) := by omega
  have gx := rowsA_get hi
  refine enterA ⟨[]⟩ (Try.f37.body.getD .skip) [.cell 4 66, .tmp 5] Try.func37 fun hwf hbel => ?_; simp only [Try.f37, push_cast, ↓EPM, ↓reduceIte, seval, reduceCtorEq]
  refine (rows_spec (some l)).use ?_
  simp only [h0, h0', h1, h1', gx, push_cast, ↓EPM, ↓reduceIte, seval, reduceCtorEq]
  exact RetP [.agg x.av, boo true]

theorem back_spec (o : Option (List Row)) (hlen : (o.getD []).length ≤ 1000000) : APure Try.prog 18 [segA o] (.sl 9 (rowsA (o.getD [])) .none) := by
  intro s
  generalize hL : o.getD [] = L at hlen ⊢
  have hat : ∀ (i : Nat) (x : Row), L[i]? = some x → APure Try.prog 37 [segA o, i64 i] (.tup [.agg x.av, boo true]) := by
    intro i x h
    cases o with
    | none => simp only [Option.getD_none] at hL; subst hL; simp at h
    | some l => simp only [Option.getD_some] at hL; subst hL; exact at_spec l i x h
  have hln := len_spec o
  rw [hL] at hln
  refine enterA ⟨[]⟩ (Try.f18.body.getD .skip) [.tmp 2] Try.func18 fun hwf hbel => ?_; simp only [Try.f18, push_cast, ↓EPM, ↓reduceIte, seval, reduceCtorEq]
  refine ALoop_inv (ι := Nat) (fun i => i ≤ L.length) (fun i => envL [(0, segA o), (3, .sl 9 (rowsA (L.take i)) (.row s.next i)), (4, i64 i)]) (fun i => AState.new { s with base := ⟨s.next, []⟩ } (.row i)) (fun i => L.length - i) 0 (Nat.zero_le _)
    (AEnt.trans (AEnt_reserve _ _) (ent rfl ?_)) (fun i hi => ?_)
  · simp only [Wv_row, List.take_zero, push_cast, ↓EPM, ↓reduceIte, seval, reduceCtorEq]
  · simp only [push_cast, ↓EPM, ↓reduceIte, seval, reduceCtorEq]
    refine hln.use ?_
    by_cases hlt : i < L.length
    · have hc : ((i : Int) < (L.length : Int)) := by omega
      have hw : IntKind.i64.wrap ((i : Int) + 1) = (i : Int) + 1 := wrap_in (by omega) (by omega)
      obtain ⟨x, hx⟩ : ∃ x, L[i]? = some x := ⟨_, List.getElem?_eq_getElem hlt⟩
      have ht := len_take hi
      have htt := rowsA_take hx
      simp only [hc, push_cast, ↓EPM, ↓reduceIte, seval, reduceCtorEq]
      refine (hat i x hx).use ?_
      simp only [ht, hw, push_cast, ↓EPM, ↓reduceIte, seval, reduceCtorEq]
      refine ⟨by unfold room; omega, ?_⟩
      refine round_next (i + 1) (by omega) (by omega) (AEnt_drop rfl rfl (Nat.le_succ _) ⟨by simp only [EO]; omega, fun id hid => by simp only [EO] at hid ⊢; (repeat' split) <;> first | rfl | omega | (subst_vars; simp_all)⟩ ((hwf.base _).new trivial) (EntB_all ?_))
      simp only [htt, push_cast, ↓EPM, ↓reduceIte, seval, reduceCtorEq]
      (try first | omega | ((repeat' apply And.intro) <;> first | omega | (simp only [push_cast, ↓EPM, ↓reduceIte, seval, reduceCtorEq, List.mem_cons, List.not_mem_nil, or_false, forall_eq_or_imp, forall_eq, and_self, true_and, and_true, zeroR]; done) | (simp only [push_cast, ↓EPM, ↓reduceIte, seval, reduceCtorEq, List.mem_cons, List.not_mem_nil, or_false, forall_eq_or_imp, forall_eq, and_self, true_and, and_true, zeroR]; omega)))
    · have hc : ¬ ((i : Int) < (L.length : Int)) := by omega
      simp only [hc, push_cast, ↓EPM, ↓reduceIte, seval, reduceCtorEq]
      rw [show L.take i = L from List.take_of_length_le (by omega)]
      exact RetW [.sl 9 (rowsA L) (.row s.next i)] [.sl 9 (rowsA L) .none]

theorem same_spec (l m : List Row) (hl : l.length ≤ 1000000) : APure Try.prog 17 [.sl 9 (rowsA l) .none, .sl 9 (rowsA m) .none] (boo (decide (l = m))) := by
  intro s
  by_cases hlen : l.length = m.length
  · have hd : ((l.length : Int) = (m.length : Int)) := by omega
    refine enterA ⟨[]⟩ (Try.f17.body.getD .skip) [.tmp 4] Try.func17 fun hwf hbel => ?_; simp only [hd,Try.f17, push_cast, ↓EPM, ↓reduceIte, seval, reduceCtorEq]
    refine ALoop_inv (ι := Nat) (fun i => i ≤ l.length ∧ l.take i = m.take i) (fun i => envL [(0, .sl 9 (rowsA l) .none), (1, .sl 9 (rowsA m) .none), (5, i64 i)]) (fun _ => { s with base := ⟨s.next, []⟩ }) (fun i => l.length - i) 0 ⟨Nat.zero_le _, rfl⟩ (ent rfl ?_) (fun i hi => ?_)
    · simp only [push_cast, ↓EPM, ↓reduceIte, seval, reduceCtorEq]
    · obtain ⟨hi, hs⟩ := hi
      by_cases hlt : i < l.length
      · have h0 : (0 : Int) ≤ (i : Int) := by omega
        have hc : ((i : Int) < (l.length : Int)) := by omega
        have hc' : ((i : Int) < (m.length : Int)) := by omega
        have hw : IntKind.i64.wrap ((i : Int) + 1) = (i : Int) + 1 := wrap_in (by omega) (by omega)
        obtain ⟨x, hx⟩ : ∃ x, l[i]? = some x := ⟨_, List.getElem?_eq_getElem hlt⟩
        obtain ⟨y, hy⟩ : ∃ x, m[i]? = some x := ⟨_, List.getElem?_eq_getElem (hlen ▸ hlt)⟩
        have gx := rowsA_get hx
        have gy := rowsA_get hy
        simp only [hc, push_cast, ↓EPM, ↓reduceIte, seval, reduceCtorEq]
        refine drawA mixed ?_; simp only [h0, hc, hc', gx, gy, push_cast, ↓EPM, ↓reduceIte, seval, reduceCtorEq]
        refine eqK_use (aeq_row x y) ?_
        by_cases hq : x = y
        · subst hq
          simp only [decide_true]
          simp only [hw, push_cast, ↓EPM, ↓reduceIte, seval, reduceCtorEq]
          refine round_next (i + 1) ⟨by omega, by rw [take_get hx, take_get hy, hs]⟩ (by omega) (ent rfl ?_)
          simp only [push_cast, ↓EPM, ↓reduceIte, seval, reduceCtorEq]
        · have hq' : decide (x = y) = false := by simp [hq]
          rw [hq']
          simp only [push_cast, ↓EPM, ↓reduceIte, seval, reduceCtorEq]
          rw [show decide (l = m) = false by
            rw [decide_eq_false_iff_not]; rintro rfl
            rw [hx] at hy; exact hq (Option.some.inj hy)]
          exact RetP [boo false]
      · have hc : ¬ ((i : Int) < (l.length : Int)) := by omega
        simp only [hc, push_cast, ↓EPM, ↓reduceIte, seval, reduceCtorEq]
        rw [show decide (l = m) = true by
          rw [decide_eq_true_eq]
          rwa [List.take_of_length_le (by omega), List.take_of_length_le (by omega)] at hs]
        exact RetP [boo true]
  · have hd : ¬ ((l.length : Int) = (m.length : Int)) := by omega
    refine enterA ⟨[]⟩ (Try.f17.body.getD .skip) [.tmp 4] Try.func17 fun hwf hbel => ?_; simp only [hd,Try.f17, push_cast, ↓EPM, ↓reduceIte, seval, reduceCtorEq]
    rw [show decide (l = m) = false by rw [decide_eq_false_iff_not]; rintro rfl; exact hlen rfl]
    exact RetP [boo false]

end Go.Proofs

namespace Go.Proofs
open Go Go.Av
set_option linter.unusedSimpArgs false
set_option linter.unusedVariables false
set_option maxRecDepth 30000

theorem clone_spec (l : List Row) (hl : l.length ≤ 1000000) : APure Try.prog 54 [.sl 9 (rowsA l) .none] (.sl 9 (rowsA l) .none) := by
  intro s
  refine ACalls_split (pre := []) (post := []) (fun hn => ?_) ?_
  · rw [hn]
    simp only [List.nil_append]
    refine enterA ⟨[]⟩ (Try.f54.body.getD .skip) [.tmp 2] Try.func54 fun hwf hbel => ?_; simp only [Try.f54, push_cast, ↓EPM, ↓reduceIte, seval, reduceCtorEq]
    refine eqK_use (AEq_slnil (e := 66) (by kernel_rfl)) ?_
    simp only [push_cast, ↓EPM, ↓reduceIte, seval, reduceCtorEq]
    exact RetW [.v (.slice none 0 0)] [.sl 9 [] .none]
  · simp only [List.nil_append]
    refine enterA ⟨[]⟩ (Try.f54.body.getD .skip) [.tmp 2] Try.func54 fun hwf hbel => ?_; simp only [Try.f54, push_cast, ↓EPM, ↓reduceIte, seval, reduceCtorEq]
    refine eqK_use (AEq_slnn (e := 66) (by kernel_rfl)) ?_
    simp only [push_cast, ↓EPM, ↓reduceIte, seval, reduceCtorEq]
    refine ⟨fun hn => ?_, fun hn => ⟨by unfold room; omega, ?_⟩⟩
    · rw [hn]
      exact RetW [.sl 9 [] .exact] [.sl 9 [] .none]
    · exact RetW [.sl 9 (rowsA l) (.row s.next l.length)] [.sl 9 (rowsA l) .none]

end Go.Proofs

namespace Go.Proofs
open Go Go.Av
set_option linter.unusedSimpArgs false
set_option linter.unusedVariables false
set_option maxRecDepth 30000

def okRow (prev : Option Key) (x : Row) : Bool := (match prev with | none => true | some p => decide (cmpK p x.k < 0)) && (decide (1 ≤ x.c.n.toInt) && x.c.right)
def rightL : Option Key → List Row → Bool
  | _, [] => true
  | prev, x :: l => okRow prev x && rightL (some x.k) l
def prevK (l : List Row) : Nat → Option Key
  | 0 => none
  | i + 1 => (l[i]?).map Row.k

theorem okRow_false_n {p : Option Key} {x : Row} (h : x.c.n.toInt < 1) : okRow p x = false := by
  have : ¬ (1 ≤ x.c.n.toInt) := by omega
  simp [okRow, this]
theorem okRow_false_r {p : Option Key} {x : Row} (h : x.c.right = false) : okRow p x = false := by simp [okRow, h]
theorem okRow_false_c {p : Key} {x : Row} (h : 0 ≤ cmpK p x.k) : okRow (some p) x = false := by
  have : ¬ (cmpK p x.k < 0) := by omega
  simp [okRow, this]
theorem okRow_true0 {x : Row} (h1 : ¬ x.c.n.toInt < 1) (h2 : x.c.right = true) : okRow none x = true := by
  have : 1 ≤ x.c.n.toInt := by omega
  simp [okRow, this, h2]
theorem okRow_true1 {p : Key} {x : Row} (h0 : ¬ 0 ≤ cmpK p x.k) (h1 : ¬ x.c.n.toInt < 1) (h2 : x.c.right = true) : okRow (some p) x = true := by
  have : 1 ≤ x.c.n.toInt := by omega
  have : cmpK p x.k < 0 := by omega
  simp [okRow, *]

theorem rright_list (l : List Row) (hl : l.length ≤ 1000000) : APure Try.prog 20 [.sl 9 (rowsA l) .none] (boo (rightL none l)) := by
  intro s
  generalize hr : rightL none l = r
  refine enterA ⟨[]⟩ (Try.f20.body.getD .skip) [.tmp 2] Try.func20 fun hwf hbel => ?_; simp only [Try.f20, push_cast, ↓EPM, ↓reduceIte, seval, reduceCtorEq]
  refine ALoop_inv (ι := Nat) (fun i => i ≤ l.length ∧ r = rightL (prevK l i) (l.drop i)) (fun i => envL [(0, .sl 9 (rowsA l) .none), (3, i64 i)]) (fun _ => { s with base := ⟨s.next, []⟩ }) (fun i => l.length - i) 0 ⟨Nat.zero_le _, by rw [← hr]; rfl⟩ (ent rfl ?_) (fun i hi => ?_)
  · simp only [push_cast, ↓EPM, ↓reduceIte, seval, reduceCtorEq]
  · obtain ⟨hi, hs⟩ := hi
    by_cases hlt : i < l.length
    · obtain ⟨x, hx⟩ : ∃ x, l[i]? = some x := ⟨_, List.getElem?_eq_getElem hlt⟩
      have gx := rowsA_get hx
      rw [drop_get hx, rightL] at hs
      have next : okRow (prevK l i) x = true → i + 1 ≤ l.length ∧ r = rightL (prevK l (i + 1)) (l.drop (i + 1)) := fun ho => ⟨by omega, by rw [hs, ho]; simp [prevK, hx]⟩
      have stop : okRow (prevK l i) x = false → r = false := fun ho => by rw [hs, ho]; rfl
      cases i with
      | zero =>
        have hc : ((0 : Int) < (l.length : Int)) := by omega
        have hw : IntKind.i64.wrap ((0 : Int) + 1) = 1 := wrap_in (by omega) (by omega)
        simp only [Int.reduceAdd] at hw
        by_cases hB : x.c.n.toInt < 1
        · simp only [hc, push_cast, ↓EPM, ↓reduceIte, seval, reduceCtorEq]
          refine drawA mixed ?_; simp only [hc, gx, hB, push_cast, ↓EPM, ↓reduceIte, seval, reduceCtorEq]
          rw [stop (okRow_false_n hB)]
          exact RetP [boo false]
        · simp only [hc, push_cast, ↓EPM, ↓reduceIte, seval, reduceCtorEq]
          refine drawA mixed ?_; simp only [hc, gx, hB, push_cast, ↓EPM, ↓reduceIte, seval, reduceCtorEq]
          refine qcall (rright_spec x.c) rfl (by simp only [push_cast, ↓EPM, ↓reduceIte, seval, reduceCtorEq] <;> rfl) ?_; simp only [push_cast, ↓EPM, ↓reduceIte, seval, reduceCtorEq]
          cases hC : x.c.right with
          | false =>
            simp only [push_cast, ↓EPM, ↓reduceIte, seval, reduceCtorEq]
            rw [stop (okRow_false_r hC)]
            exact RetP [boo false]
          | true =>
            simp only [hw, push_cast, ↓EPM, ↓reduceIte, seval, reduceCtorEq]
            refine round_next 1 (next (okRow_true0 hB hC)) (by omega) (ent rfl ?_)
            simp only [push_cast, ↓EPM, ↓reduceIte, seval, reduceCtorEq]
      | succ j =>
        obtain ⟨y, hy⟩ : ∃ y, l[j]? = some y := ⟨_, List.getElem?_eq_getElem (by omega)⟩
        have gy := rowsA_get hy
        have hp : prevK l (j + 1) = some y.k := by simp [prevK, hy]
        rw [hp] at stop next
        have hc : ((j : Int) + 1 < (l.length : Int)) := by omega
        have hc' : ((j : Int) < (l.length : Int)) := by omega
        have h0 : (0 : Int) ≤ (j : Int) := by omega
        have h0' : (0 : Int) ≤ (j : Int) + 1 := by omega
        have h0'' : (0 : Int) < (j : Int) + 1 := by omega
        have hw : IntKind.i64.wrap ((j : Int) + 1 + 1) = (j : Int) + 1 + 1 := wrap_in (by omega) (by omega)
        have hw' : IntKind.i64.wrap ((j : Int) + 1 - 1) = (j : Int) := by rw [wrap_in (by omega) (by omega)]; omega
        have ht : ((j : Int) + 1).toNat = j + 1 := by omega
        by_cases hA : 0 ≤ cmpK y.k x.k
        · simp only [hc, push_cast, ↓EPM, ↓reduceIte, seval, reduceCtorEq]
          refine drawA mixed ?_; simp only [hc, hc', h0, h0', h0'', hw', ht, gx, gy, push_cast, ↓EPM, ↓reduceIte, seval, reduceCtorEq]
          refine qcall (rcmp_spec y.k x.k) rfl (by simp only [push_cast, ↓EPM, ↓reduceIte, seval, reduceCtorEq] <;> rfl) ?_; simp only [push_cast, ↓EPM, ↓reduceIte, seval, reduceCtorEq]
          simp only [hA, push_cast, ↓EPM, ↓reduceIte, seval, reduceCtorEq]
          rw [stop (okRow_false_c hA)]
          exact RetP [boo false]
        · by_cases hB : x.c.n.toInt < 1
          · simp only [hc, push_cast, ↓EPM, ↓reduceIte, seval, reduceCtorEq]
            refine drawA mixed ?_; simp only [hc, hc', h0, h0', h0'', hw', ht, gx, gy, push_cast, ↓EPM, ↓reduceIte, seval, reduceCtorEq]
            refine qcall (rcmp_spec y.k x.k) rfl (by simp only [push_cast, ↓EPM, ↓reduceIte, seval, reduceCtorEq] <;> rfl) ?_; simp only [push_cast, ↓EPM, ↓reduceIte, seval, reduceCtorEq]
            simp only [hA, hc, hc', h0, h0', h0'', hw', ht, gx, gy, hB, push_cast, ↓EPM, ↓reduceIte, seval, reduceCtorEq]
            rw [stop (okRow_false_n hB)]
            exact RetP [boo false]
          · simp only [hc, push_cast, ↓EPM, ↓reduceIte, seval, reduceCtorEq]
            refine drawA mixed ?_; simp only [hc, hc', h0, h0', h0'', hw', ht, gx, gy, push_cast, ↓EPM, ↓reduceIte, seval, reduceCtorEq]
            refine qcall (rcmp_spec y.k x.k) rfl (by simp only [push_cast, ↓EPM, ↓reduceIte, seval, reduceCtorEq] <;> rfl) ?_; simp only [push_cast, ↓EPM, ↓reduceIte, seval, reduceCtorEq]
            simp only [hA, hc, hc', h0, h0', h0'', hw', ht, gx, gy, hB, push_cast, ↓EPM, ↓reduceIte, seval, reduceCtorEq]
            refine qcall (rright_spec x.c) rfl (by simp only [push_cast, ↓EPM, ↓reduceIte, seval, reduceCtorEq] <;> rfl) ?_; simp only [push_cast, ↓EPM, ↓reduceIte, seval, reduceCtorEq]
            cases hC : x.c.right with
            | false =>
              simp only [push_cast, ↓EPM, ↓reduceIte, seval, reduceCtorEq]
              rw [stop (okRow_false_r hC)]
              exact RetP [boo false]
            | true =>
              simp only [hw, push_cast, ↓EPM, ↓reduceIte, seval, reduceCtorEq]
              refine round_next (j + 1 + 1) (next (okRow_true1 hA hB hC)) (by omega) (ent rfl ?_)
              simp only [push_cast, ↓EPM, ↓reduceIte, seval, reduceCtorEq]
    · have hc : ¬ ((i : Int) < (l.length : Int)) := by omega
      simp only [hc, push_cast, ↓EPM, ↓reduceIte, seval, reduceCtorEq]
      rw [show r = true by rw [hs, List.drop_eq_nil_of_le (by omega), rightL]]
      exact RetP [boo true]

end Go.Proofs

namespace Go.Proofs
open Go Go.Av
set_option linter.unusedSimpArgs false
set_option linter.unusedVariables false
set_option maxRecDepth 30000


theorem srows_spec (l : List Row) (hl : l.length ≤ 1000000) : APure Try.prog 19 [.sl 9 (rowsA l) .none] (if rightL none l then resS (some l) 0 else resS none 4) := by
  intro s
  generalize hr : rightL none l = r
  refine enterA ⟨[43]⟩ (Try.f19.body.getD .skip) [.tmp 2, .tmp 3] Try.func19 fun hwf hbel => ?_; simp only [Try.f19, push_cast, ↓EPM, ↓reduceIte, seval, reduceCtorEq]
  refine ALoop_inv (ι := Nat) (fun i => i ≤ l.length ∧ r = rightL (prevK l i) (l.drop i)) (fun i => envL [(0, .sl 9 (rowsA l) .none), (6, .sl 9 (rowsA l) .none), (7, i64 l.length), (8, i64 i)]) (fun _ => { s with base := ⟨s.next, []⟩ }) (fun i => l.length - i) 0 ⟨Nat.zero_le _, by rw [← hr]; rfl⟩ (ent rfl ?_) (fun i hi => ?_)
  · simp only [push_cast, ↓EPM, ↓reduceIte, seval, reduceCtorEq]
  · obtain ⟨hi, hs⟩ := hi
    by_cases hlt : i < l.length
    · obtain ⟨x, hx⟩ : ∃ x, l[i]? = some x := ⟨_, List.getElem?_eq_getElem hlt⟩
      have gx := rowsA_get hx
      rw [drop_get hx, rightL] at hs
      have next : okRow (prevK l i) x = true → i + 1 ≤ l.length ∧ r = rightL (prevK l (i + 1)) (l.drop (i + 1)) := fun ho => ⟨by omega, by rw [hs, ho]; simp [prevK, hx]⟩
      have stop : okRow (prevK l i) x = false → r = false := fun ho => by rw [hs, ho]; rfl
      cases i with
      | zero =>
        have hc : ((0 : Int) < (l.length : Int)) := by omega
        have hw : IntKind.i64.wrap ((0 : Int) + 1) = 1 := wrap_in (by omega) (by omega)
        simp only [Int.reduceAdd] at hw
        by_cases hB : x.c.n.toInt < 1
        · simp only [hc, gx, push_cast, ↓EPM, ↓reduceIte, seval, reduceCtorEq]
          refine drawA mixed ?_; simp only [hc, gx, hB, push_cast, ↓EPM, ↓reduceIte, seval, reduceCtorEq]
          rw [stop (okRow_false_n hB)]
          exact RetP [segA none, i64 4]
        · simp only [hc, gx, push_cast, ↓EPM, ↓reduceIte, seval, reduceCtorEq]
          refine drawA mixed ?_; simp only [hc, gx, hB, push_cast, ↓EPM, ↓reduceIte, seval, reduceCtorEq]
          refine qcall (right_spec x.c) rfl (by simp only [push_cast, ↓EPM, ↓reduceIte, seval, reduceCtorEq] <;> rfl) ?_; simp only [push_cast, ↓EPM, ↓reduceIte, seval, reduceCtorEq]
          cases hC : x.c.right with
          | false =>
            simp only [push_cast, ↓EPM, ↓reduceIte, seval, reduceCtorEq]
            rw [stop (okRow_false_r hC)]
            exact RetP [segA none, i64 4]
          | true =>
            simp only [hw, push_cast, ↓EPM, ↓reduceIte, seval, reduceCtorEq]
            refine round_next 1 (next (okRow_true0 hB hC)) (by omega) (AEnt_drop rfl rfl (Nat.le_refl _) ⟨by simp only [EO]; omega, fun id hid => by simp only [EO] at hid ⊢; (repeat' split) <;> first | rfl | omega | (subst_vars; simp_all)⟩ (hwf.base _) (EntB_all ?_))
            simp only [push_cast, ↓EPM, ↓reduceIte, seval, reduceCtorEq]
            (try first | omega | ((repeat' apply And.intro) <;> first | omega | (simp only [push_cast, ↓EPM, ↓reduceIte, seval, reduceCtorEq, List.mem_cons, List.not_mem_nil, or_false, forall_eq_or_imp, forall_eq, and_self, true_and, and_true, zeroR]; done) | (simp only [push_cast, ↓EPM, ↓reduceIte, seval, reduceCtorEq, List.mem_cons, List.not_mem_nil, or_false, forall_eq_or_imp, forall_eq, and_self, true_and, and_true, zeroR]; omega)))
      | succ j =>
        obtain ⟨y, hy⟩ : ∃ y, l[j]? = some y := ⟨_, List.getElem?_eq_getElem (by omega)⟩
        have gy := rowsA_get hy
        have hp : prevK l (j + 1) = some y.k := by simp [prevK, hy]
        rw [hp] at stop next
        have hc : ((j : Int) + 1 < (l.length : Int)) := by omega
        have hc' : ((j : Int) < (l.length : Int)) := by omega
        have h0 : (0 : Int) ≤ (j : Int) := by omega
        have h0' : (0 : Int) ≤ (j : Int) + 1 := by omega
        have h0'' : (0 : Int) < (j : Int) + 1 := by omega
        have hw : IntKind.i64.wrap ((j : Int) + 1 + 1) = (j : Int) + 1 + 1 := wrap_in (by omega) (by omega)
        have hw' : IntKind.i64.wrap ((j : Int) + 1 - 1) = (j : Int) := by rw [wrap_in (by omega) (by omega)]; omega
        have ht : ((j : Int) + 1).toNat = j + 1 := by omega
        by_cases hA : 0 ≤ cmpK y.k x.k
        · simp only [hc, hc', h0, h0', h0'', hw', ht, gx, gy, push_cast, ↓EPM, ↓reduceIte, seval, reduceCtorEq]
          refine drawA mixed ?_; simp only [hc, hc', h0, h0', h0'', hw', ht, gx, gy, push_cast, ↓EPM, ↓reduceIte, seval, reduceCtorEq]
          refine qcall (fcmp_spec y.k x.k) rfl (by simp only [push_cast, ↓EPM, ↓reduceIte, seval, reduceCtorEq] <;> rfl) ?_; simp only [push_cast, ↓EPM, ↓reduceIte, seval, reduceCtorEq]
          simp only [hA, push_cast, ↓EPM, ↓reduceIte, seval, reduceCtorEq]
          rw [stop (okRow_false_c hA)]
          exact RetP [segA none, i64 4]
        · by_cases hB : x.c.n.toInt < 1
          · simp only [hc, hc', h0, h0', h0'', hw', ht, gx, gy, push_cast, ↓EPM, ↓reduceIte, seval, reduceCtorEq]
            refine drawA mixed ?_; simp only [hc, hc', h0, h0', h0'', hw', ht, gx, gy, push_cast, ↓EPM, ↓reduceIte, seval, reduceCtorEq]
            refine qcall (fcmp_spec y.k x.k) rfl (by simp only [push_cast, ↓EPM, ↓reduceIte, seval, reduceCtorEq] <;> rfl) ?_; simp only [push_cast, ↓EPM, ↓reduceIte, seval, reduceCtorEq]
            simp only [hA, hc, hc', h0, h0', h0'', hw', ht, gx, gy, hB, push_cast, ↓EPM, ↓reduceIte, seval, reduceCtorEq]
            rw [stop (okRow_false_n hB)]
            exact RetP [segA none, i64 4]
          · simp only [hc, hc', h0, h0', h0'', hw', ht, gx, gy, push_cast, ↓EPM, ↓reduceIte, seval, reduceCtorEq]
            refine drawA mixed ?_; simp only [hc, hc', h0, h0', h0'', hw', ht, gx, gy, push_cast, ↓EPM, ↓reduceIte, seval, reduceCtorEq]
            refine qcall (fcmp_spec y.k x.k) rfl (by simp only [push_cast, ↓EPM, ↓reduceIte, seval, reduceCtorEq] <;> rfl) ?_; simp only [push_cast, ↓EPM, ↓reduceIte, seval, reduceCtorEq]
            simp only [hA, hc, hc', h0, h0', h0'', hw', ht, gx, gy, hB, push_cast, ↓EPM, ↓reduceIte, seval, reduceCtorEq]
            refine qcall (right_spec x.c) rfl (by simp only [push_cast, ↓EPM, ↓reduceIte, seval, reduceCtorEq] <;> rfl) ?_; simp only [push_cast, ↓EPM, ↓reduceIte, seval, reduceCtorEq]
            cases hC : x.c.right with
            | false =>
              simp only [push_cast, ↓EPM, ↓reduceIte, seval, reduceCtorEq]
              rw [stop (okRow_false_r hC)]
              exact RetP [segA none, i64 4]
            | true =>
              simp only [hw, push_cast, ↓EPM, ↓reduceIte, seval, reduceCtorEq]
              refine round_next (j + 1 + 1) (next (okRow_true1 hA hB hC)) (by omega) (AEnt_drop rfl rfl (Nat.le_refl _) ⟨by simp only [EO]; omega, fun id hid => by simp only [EO] at hid ⊢; (repeat' split) <;> first | rfl | omega | (subst_vars; simp_all)⟩ (hwf.base _) (EntB_all ?_))
              simp only [push_cast, ↓EPM, ↓reduceIte, seval, reduceCtorEq]
              (try first | omega | ((repeat' apply And.intro) <;> first | omega | (simp only [push_cast, ↓EPM, ↓reduceIte, seval, reduceCtorEq, List.mem_cons, List.not_mem_nil, or_false, forall_eq_or_imp, forall_eq, and_self, true_and, and_true, zeroR]; done) | (simp only [push_cast, ↓EPM, ↓reduceIte, seval, reduceCtorEq, List.mem_cons, List.not_mem_nil, or_false, forall_eq_or_imp, forall_eq, and_self, true_and, and_true, zeroR]; omega)))
    · have hc : ¬ ((i : Int) < (l.length : Int)) := by omega
      simp only [hc, push_cast, ↓EPM, ↓reduceIte, seval, reduceCtorEq]
      refine (clone_spec l hl).use ?_
      simp only [push_cast, ↓EPM, ↓reduceIte, seval, reduceCtorEq]
      rw [show r = true by rw [hs, List.drop_eq_nil_of_le (by omega), rightL]]
      exact RetP [segA (some l), i64 0]

end Go.Proofs

namespace Go.Proofs
open Go Go.Av
set_option linter.unusedSimpArgs false
set_option linter.unusedVariables false
set_option maxRecDepth 30000

def short (b : ByteArray) : Bool := decide (b.size ≤ 40)
def lightF (l : List Fact) : Bool := decide (l.length ≤ 100) && l.all fun f => f.k.dims.all short

theorem lightF_spec (l : List Fact) : APure Try.prog 12 [.sl 6 (factsA l) .none] (boo (lightF l)) := by
  intro s
  by_cases hl : l.length ≤ 100
  · have hb : ¬ (100 < (l.length : Int)) := by omega
    rw [show lightF l = l.all (fun f => f.k.dims.all short) by simp [lightF, hl]]
    generalize hr : l.all (fun f => f.k.dims.all short) = r
    refine enterA ⟨[]⟩ (Try.f12.body.getD .skip) [.tmp 2] Try.func12 fun hwf hbel => ?_; simp only [hb,Try.f12, push_cast, ↓EPM, ↓reduceIte, seval, reduceCtorEq]
    refine ALoop_inv (ι := Nat) (fun i => i ≤ l.length ∧ r = (l.drop i).all (fun f => f.k.dims.all short)) (fun i => envL [(0, .sl 6 (factsA l) .none), (3, i64 i)]) (fun _ => { s with base := ⟨s.next, []⟩ }) (fun i => l.length - i) 0 ⟨Nat.zero_le _, by rw [← hr]; rfl⟩ (ent rfl ?_) (fun i hi => ?_)
    · simp only [push_cast, ↓EPM, ↓reduceIte, seval, reduceCtorEq]
    · obtain ⟨hi, hs⟩ := hi
      by_cases hlt : i < l.length
      · obtain ⟨x, hx⟩ : ∃ x, l[i]? = some x := ⟨_, List.getElem?_eq_getElem hlt⟩
        have gx := factsA_get hx
        rw [drop_get hx, List.all_cons] at hs
        have hc : ((i : Int) < (l.length : Int)) := by omega
        have h0 : (0 : Int) ≤ (i : Int) := by omega
        have hw : IntKind.i64.wrap ((i : Int) + 1) = (i : Int) + 1 := wrap_in (by omega) (by omega)
        simp only [hc, push_cast, ↓EPM, ↓reduceIte, seval, reduceCtorEq]
        refine ALoop_inv (ι := Nat) (fun k => k ≤ 4 ∧ r = ((x.k.dims.drop k).all short && (l.drop (i + 1)).all (fun f => f.k.dims.all short))) (fun k => envL [(0, .sl 6 (factsA l) .none), (3, i64 i), (4, i64 k)]) (fun _ => { s with base := ⟨s.next, []⟩ }) (fun k => 4 - k) 0 ⟨Nat.zero_le _, hs⟩ (ent rfl ?_) (fun k hk => ?_)
        · simp only [push_cast, ↓EPM, ↓reduceIte, seval, reduceCtorEq]
        · obtain ⟨hk, hs⟩ := hk
          obtain rfl | rfl | rfl | rfl | rfl : k = 0 ∨ k = 1 ∨ k = 2 ∨ k = 3 ∨ k = 4 := by omega
          · by_cases hq : 40 < (x.k.a.size : Int)
            · simp only [hc, h0, gx, hq, push_cast, ↓EPM, ↓reduceIte, seval, reduceCtorEq]
              rw [show r = false by
                have : ¬ x.k.a.size ≤ 40 := by omega
                rw [hs]; simp [Key.dims, short, this]]
              exact RetP [boo false]
            · have hw' : IntKind.i64.wrap ((0 : Int) + 1) = (0 : Int) + 1 := wrap_in (by omega) (by omega)
              simp only [Int.reduceAdd] at hw'
              simp only [hc, h0, gx, hq, hw', push_cast, ↓EPM, ↓reduceIte, seval, reduceCtorEq]
              refine round_next 1 ⟨by omega, ?_⟩ (by omega) (ent rfl ?_)
              · have : x.k.a.size ≤ 40 := by omega
                rw [hs]; simp [Key.dims, short, this]
              · simp only [push_cast, ↓EPM, ↓reduceIte, seval, reduceCtorEq]
          · by_cases hq : 40 < (x.k.b.size : Int)
            · simp only [hc, h0, gx, hq, push_cast, ↓EPM, ↓reduceIte, seval, reduceCtorEq]
              rw [show r = false by
                have : ¬ x.k.b.size ≤ 40 := by omega
                rw [hs]; simp [Key.dims, short, this]]
              exact RetP [boo false]
            · have hw' : IntKind.i64.wrap ((1 : Int) + 1) = (1 : Int) + 1 := wrap_in (by omega) (by omega)
              simp only [Int.reduceAdd] at hw'
              simp only [hc, h0, gx, hq, hw', push_cast, ↓EPM, ↓reduceIte, seval, reduceCtorEq]
              refine round_next 2 ⟨by omega, ?_⟩ (by omega) (ent rfl ?_)
              · have : x.k.b.size ≤ 40 := by omega
                rw [hs]; simp [Key.dims, short, this]
              · simp only [push_cast, ↓EPM, ↓reduceIte, seval, reduceCtorEq]
          · by_cases hq : 40 < (x.k.c.size : Int)
            · simp only [hc, h0, gx, hq, push_cast, ↓EPM, ↓reduceIte, seval, reduceCtorEq]
              rw [show r = false by
                have : ¬ x.k.c.size ≤ 40 := by omega
                rw [hs]; simp [Key.dims, short, this]]
              exact RetP [boo false]
            · have hw' : IntKind.i64.wrap ((2 : Int) + 1) = (2 : Int) + 1 := wrap_in (by omega) (by omega)
              simp only [Int.reduceAdd] at hw'
              simp only [hc, h0, gx, hq, hw', push_cast, ↓EPM, ↓reduceIte, seval, reduceCtorEq]
              refine round_next 3 ⟨by omega, ?_⟩ (by omega) (ent rfl ?_)
              · have : x.k.c.size ≤ 40 := by omega
                rw [hs]; simp [Key.dims, short, this]
              · simp only [push_cast, ↓EPM, ↓reduceIte, seval, reduceCtorEq]
          · by_cases hq : 40 < (x.k.d.size : Int)
            · simp only [hc, h0, gx, hq, push_cast, ↓EPM, ↓reduceIte, seval, reduceCtorEq]
              rw [show r = false by
                have : ¬ x.k.d.size ≤ 40 := by omega
                rw [hs]; simp [Key.dims, short, this]]
              exact RetP [boo false]
            · have hw' : IntKind.i64.wrap ((3 : Int) + 1) = (3 : Int) + 1 := wrap_in (by omega) (by omega)
              simp only [Int.reduceAdd] at hw'
              simp only [hc, h0, gx, hq, hw', push_cast, ↓EPM, ↓reduceIte, seval, reduceCtorEq]
              refine round_next 4 ⟨by omega, ?_⟩ (by omega) (ent rfl ?_)
              · have : x.k.d.size ≤ 40 := by omega
                rw [hs]; simp [Key.dims, short, this]
              · simp only [push_cast, ↓EPM, ↓reduceIte, seval, reduceCtorEq]
          · simp only [hw, push_cast, ↓EPM, ↓reduceIte, seval, reduceCtorEq]
            refine round_next (i + 1) ⟨by omega, hs⟩ (by omega) (ent rfl ?_)
            simp only [push_cast, ↓EPM, ↓reduceIte, seval, reduceCtorEq]
      · have hc : ¬ ((i : Int) < (l.length : Int)) := by omega
        simp only [hc, push_cast, ↓EPM, ↓reduceIte, seval, reduceCtorEq]
        rw [show r = true by rw [hs, List.drop_eq_nil_of_le (by omega)]; rfl]
        exact RetP [boo true]
  · have hb : 100 < (l.length : Int) := by omega
    rw [show lightF l = false by simp [lightF, hl]]
    refine enterA ⟨[]⟩ (Try.f12.body.getD .skip) [.tmp 2] Try.func12 fun hwf hbel => ?_; simp only [hb,Try.f12, push_cast, ↓EPM, ↓reduceIte, seval, reduceCtorEq]
    exact RetP [boo false]

end Go.Proofs

namespace Go.Proofs
open Go Go.Av
set_option linter.unusedSimpArgs false
set_option linter.unusedVariables false
set_option maxRecDepth 30000
set_option maxHeartbeats 2000000
theorem nx : (∀ n : Nat, (n = n + 1 + 1) = False) ∧ (∀ n : Nat, (n + 1 + 1 = n) = False) ∧ (∀ n : Nat, (n = n + 1 + 1 + 1) = False) ∧ (∀ n : Nat, (n + 1 + 1 + 1 = n) = False) := by
  refine ⟨fun n => ?_, fun n => ?_, fun n => ?_, fun n => ?_⟩ <;> (apply eq_false; omega)
theorem i64_0 : Int64.toInt 0 = 0 := rfl

attribute [push_cast] List.length_append Int.le_refl room i64_0 nx

def putR (pre rest : List Row) (x : Row) : Option (List Row) :=
  match rest with
  | [] => some (pre ++ [x])
  | y :: t => if y.k = x.k then (mergeC y.c x.c).map fun c => pre ++ ⟨x.k, c⟩ :: t else some (pre ++ x :: y :: t)
def resP : Option (List Row) → AV
  | some l => .tup [.sl 9 (rowsA l) .none, i64 0]
  | none => .tup [.sl 9 [] .none, i64 6]

theorem rows_take (pre rest : List Row) : (rowsA (pre ++ rest)).take pre.length = rowsA pre := by
  rw [← rowsA_app, ← rowsA_len pre, List.take_left]
theorem rows_drop (pre rest : List Row) : ((rowsA (pre ++ rest)).take (pre.length + rest.length)).drop pre.length = rowsA rest := by
  rw [← List.length_append, ← rowsA_len (pre ++ rest), List.take_length, ← rowsA_app, ← rowsA_len pre, List.drop_left]
theorem rowsA_cons (x : Row) (l : List Row) : rowsA (x :: l) = x.av :: rowsA l := rfl
theorem rowsA_tail (y : Row) (t : List Row) : (List.take (t.length + 1) (rowsA (y :: t))).drop 1 = rowsA t := by
  rw [show t.length + 1 = (rowsA (y :: t)).length by simp [rowsA], List.take_length]; rfl

theorem rowsA_append (l m : List Row) : rowsA (l ++ m) = rowsA l ++ rowsA m := (rowsA_app l m).symm
theorem rowsA_self (l : List Row) : (rowsA l).take l.length = rowsA l := by rw [← rowsA_len l, List.take_length]
theorem rowsA_none (l : List Row) : (rowsA l).drop l.length = [] := by rw [← rowsA_len l, List.drop_length]
theorem rowsA_isnil {l : List Row} (h : rowsA l = []) : l = [] := by cases l with | nil => rfl | cons x l => simp [rowsA] at h

theorem put_pr (pre rest : List Row) (x : Row) (h1 : ∀ r ∈ pre, cmpK r.k x.k < 0) (h2 : ∀ y t, rest = y :: t → ¬ cmpK y.k x.k < 0) (hl : (pre ++ rest).length ≤ 1000000) :
    APure Try.prog 51 [.sl 9 (rowsA (pre ++ rest)) .none, .agg x.av] (resP (putR pre rest x)) := by
  intro s
  have hlen : (pre ++ rest).length = pre.length + rest.length := List.length_append
  refine enterA ⟨[]⟩ (Try.f51.body.getD .skip) [.tmp 4, .tmp 5] Try.func51 fun hwf hbel => ?_; simp only [Try.f51, push_cast, ↓EPM, ↓reduceIte, seval, reduceCtorEq]
  refine ALoop_inv (ι := Nat) (fun i => i ≤ pre.length) (fun i => envL [(0, .sl 9 (rowsA (pre ++ rest)) .none), (3, .ptr s.next 0), (6, i64 i)]) (fun _ => AState.new { s with base := ⟨s.next, []⟩ } (.cells x.av)) (fun i => pre.length - i) 0 (Nat.zero_le _) (ent rfl ?_) (fun i hi => ?_)
  · simp only [push_cast, ↓EPM, ↓reduceIte, seval, reduceCtorEq]
  · have h0 : (0 : Int) ≤ (i : Int) := by omega
    by_cases hlt : i < pre.length
    · have hc : ((i : Int) < (pre.length : Int) + (rest.length : Int)) := by omega
      have hw : IntKind.i64.wrap ((i : Int) + 1) = (i : Int) + 1 := wrap_in (by omega) (by omega)
      obtain ⟨y, hy⟩ : ∃ y, pre[i]? = some y := ⟨_, List.getElem?_eq_getElem hlt⟩
      have gy := rowsA_get (l := pre ++ rest) (i := i) (x := y) (by rw [List.getElem?_append_left hlt, hy])
      have hp : cmpK y.k x.k < 0 := h1 y (List.mem_of_getElem? hy)
      simp only [push_cast, ↓EPM, ↓reduceIte, seval, reduceCtorEq]
      refine drawA mixed ?_; simp only [hc, h0, gy, push_cast, ↓EPM, ↓reduceIte, seval, reduceCtorEq]
      refine qcall (rcmp_spec y.k x.k) rfl (by simp only [push_cast, ↓EPM, ↓reduceIte, seval, reduceCtorEq] <;> rfl) ?_; simp only [push_cast, ↓EPM, ↓reduceIte, seval, reduceCtorEq]
      simp only [hp, hw, push_cast, ↓EPM, ↓reduceIte, seval, reduceCtorEq]
      refine round_next (i + 1) (by omega) (by omega) (ent rfl ?_)
      simp only [push_cast, ↓EPM, ↓reduceIte, seval, reduceCtorEq]
    · have hi' : i = pre.length := by omega
      subst hi'
      cases rest with
      | nil =>
        have hc : ¬ ((pre.length : Int) < (pre.length : Int)) := by omega
        simp only [push_cast, ↓EPM, ↓reduceIte, seval, reduceCtorEq]
        refine drawA mixed ?_; simp only [hc, h0, rowsA_self, rowsA_none, push_cast, ↓EPM, ↓reduceIte, seval, reduceCtorEq]
        refine ⟨fun hn => ?_, fun hn => ⟨by omega, ?_⟩⟩
        · have hp := rowsA_isnil hn
          subst hp
          simp only [push_cast, ↓EPM, ↓reduceIte, seval, reduceCtorEq]
          refine drawA mixed ?_; simp only [push_cast, ↓EPM, ↓reduceIte, seval, reduceCtorEq]
          exact RetW [.sl 9 [x.av] (.row (s.next + 1) 1), i64 0] [.sl 9 (rowsA [x]) .none, i64 0] (hw := by simp only [WvL, rowsA_cons, rowsA_append, push_cast, ↓EPM, ↓reduceIte, seval, reduceCtorEq])
        · refine drawA mixed ?_; simp only [push_cast, ↓EPM, ↓reduceIte, seval, reduceCtorEq]
          refine ⟨by omega, by omega, ?_⟩
          exact RetW [.sl 9 (rowsA pre ++ [x.av]) (.row (s.next + 1) (pre.length + 1)), i64 0] [.sl 9 (rowsA (pre ++ [x])) .none, i64 0] (hw := by simp only [WvL, rowsA_cons, rowsA_append, push_cast, ↓EPM, ↓reduceIte, seval, reduceCtorEq])
      | cons y t =>
        have hy2 : ¬ cmpK y.k x.k < 0 := h2 y t rfl
        simp only [List.length_cons] at hlen
        have hc : ((pre.length : Int) < (pre.length : Int) + ((t.length : Int) + 1)) := by omega
        have gy := rowsA_get (l := pre ++ y :: t) (i := pre.length) (x := y) (by simp)
        have e1 := rows_take pre (y :: t)
        have hT : ((pre.length : Int) + ((t.length : Int) + 1)).toNat = pre.length + (t.length + 1) := by omega
        have hD : List.drop pre.length (List.take (pre.length + (t.length + 1)) (rowsA (pre ++ y :: t))) = rowsA (y :: t) := rows_drop pre (y :: t)
        have hle : (pre.length : Int) ≤ (pre.length : Int) + ((t.length : Int) + 1) := by omega
        have h3 : (0 : Int) < (t.length : Int) + 1 := by omega
        have h4 : (1 : Int) ≤ (t.length : Int) + 1 := by omega
        have hT4 : ((t.length : Int) + 1).toNat = t.length + 1 := by omega
        have hT3 := h3
        have g0 : (rowsA (y :: t)).getD 0 [] = y.av := rfl
        simp only [push_cast, ↓EPM, ↓reduceIte, seval, reduceCtorEq]
        refine drawA mixed ?_; simp only [hc, h0, gy, push_cast, ↓EPM, ↓reduceIte, seval, reduceCtorEq]
        refine qcall (rcmp_spec y.k x.k) rfl (by simp only [push_cast, ↓EPM, ↓reduceIte, seval, reduceCtorEq] <;> rfl) ?_; simp only [push_cast, ↓EPM, ↓reduceIte, seval, reduceCtorEq]
        simp only [hy2, h0, hle, e1, hT, hD, push_cast, ↓EPM, ↓reduceIte, seval, reduceCtorEq]
        refine ⟨fun hn => ?_, fun hn => ⟨by omega, ?_⟩⟩
        · have hp := rowsA_isnil hn
          subst hp
          simp only [List.nil_append, rowsA_nil, List.length_nil] at *
          simp only [push_cast, ↓EPM, ↓reduceIte, seval, reduceCtorEq]
          refine drawA mixed ?_; simp only [h3, g0, hT3, push_cast, ↓EPM, ↓reduceIte, seval, reduceCtorEq]
          refine eqK_use (aeq_key y.k x.k) ?_
          by_cases hk : y.k = x.k
          · have hk' : decide (y.k = x.k) = true := by simp [hk]
            rw [hk']
            have hm := rmerge_spec y.c x.c
            cases hmc : mergeC y.c x.c with
            | none =>
              rw [hmc] at hm
              simp only [push_cast, ↓EPM, ↓reduceIte, seval, reduceCtorEq]
              refine chainA [(AState.new { s with base := ⟨s.next, []⟩ } (.cells x.av)), AState.new (AState.new { s with base := ⟨s.next, []⟩ } (.cells x.av)) (.cells zeroC.av), AState.set (AState.new (AState.new { s with base := ⟨s.next, []⟩ } (.cells x.av)) (.cells zeroC.av)) (s.next + 1) (.cells zeroC.av)] [some 9, some 9, some 9, some 9, some 9, some 9, some 9, some 9, some 9, some 9, none, none, some 9] mixed ?_; simp only [zeroC, h3, g0, hT3,  ↓EX, EY, ↓EH, push_cast, ↓EPM, ↓reduceIte, seval, reduceCtorEq]
              refine qcallC (hm) rfl (by simp only [push_cast, ↓EPM, ↓reduceIte, seval, reduceCtorEq] <;> rfl) ?_; simp only [↓EX, EY, ↓EH, push_cast, ↓EPM, ↓reduceIte, seval, reduceCtorEq]
              simp only [resC, zeroC, h4, hT4, rowsA_tail, ↓EX, EY, ↓EH, push_cast, ↓EPM, ↓reduceIte, seval, reduceCtorEq]
              rw [show putR [] (y :: t) x = none by simp [putR, hk, hmc]]
              exact RetW [.v (.slice none 0 0), i64 6] [.sl 9 [] .none, i64 6]
            | some c =>
              rw [hmc] at hm
              simp only [push_cast, ↓EPM, ↓reduceIte, seval, reduceCtorEq]
              refine chainA [(AState.new { s with base := ⟨s.next, []⟩ } (.cells x.av)), AState.new (AState.new { s with base := ⟨s.next, []⟩ } (.cells x.av)) (.cells zeroC.av), AState.set (AState.new (AState.new { s with base := ⟨s.next, []⟩ } (.cells x.av)) (.cells zeroC.av)) (s.next + 1) (.cells c.av)] [some 9, some 9, some 9, some 9, some 9, some 9, some 9, some 9, some 9, some 9, none, none, some 9] mixed ?_; simp only [zeroC, h3, g0, hT3,  ↓EX, EY, ↓EH, push_cast, ↓EPM, ↓reduceIte, seval, reduceCtorEq]
              refine qcallC (hm) rfl (by simp only [push_cast, ↓EPM, ↓reduceIte, seval, reduceCtorEq] <;> rfl) ?_; simp only [↓EX, EY, ↓EH, push_cast, ↓EPM, ↓reduceIte, seval, reduceCtorEq]
              simp only [resC, zeroC, h4, hT4, rowsA_tail, ↓EX, EY, ↓EH, push_cast, ↓EPM, ↓reduceIte, seval, reduceCtorEq]
              refine ⟨by omega, ?_⟩
              rw [show putR [] (y :: t) x = some ([] ++ ⟨x.k, c⟩ :: t) by simp [putR, hk, hmc]]
              exact RetW [.sl 9 ([Row.av ⟨x.k, c⟩] ++ rowsA t) (.row (s.next + 2) (1 + t.length)), i64 0] [.sl 9 (rowsA ([] ++ ⟨x.k, c⟩ :: t)) .none, i64 0] (hw := by simp only [WvL, rowsA_cons, rowsA_append, push_cast, ↓EPM, ↓reduceIte, seval, reduceCtorEq])
          · have hk' : decide (y.k = x.k) = false := by simp [hk]
            rw [hk']
            simp only [push_cast, ↓EPM, ↓reduceIte, seval, reduceCtorEq]
            refine ⟨by omega, ?_⟩
            rw [show putR [] (y :: t) x = some ([] ++ x :: y :: t) by simp [putR, hk]]
            exact RetW [.sl 9 ([x.av] ++ rowsA (y :: t)) (.row (s.next + 1) (1 + (t.length + 1))), i64 0] [.sl 9 (rowsA ([] ++ x :: y :: t)) .none, i64 0] (hw := by simp only [WvL, rowsA_cons, rowsA_append, List.append_assoc, push_cast, ↓EPM, ↓reduceIte, seval, reduceCtorEq])
        · refine drawA mixed ?_; simp only [h3, g0, hT3, push_cast, ↓EPM, ↓reduceIte, seval, reduceCtorEq]
          refine eqK_use (aeq_key y.k x.k) ?_
          by_cases hk : y.k = x.k
          · have hk' : decide (y.k = x.k) = true := by simp [hk]
            rw [hk']
            have hm := rmerge_spec y.c x.c
            cases hmc : mergeC y.c x.c with
            | none =>
              rw [hmc] at hm
              simp only [push_cast, ↓EPM, ↓reduceIte, seval, reduceCtorEq]
              refine chainA [(AState.new (AState.new { s with base := ⟨s.next, []⟩ } (.cells x.av)) (.row pre.length)), AState.new (AState.new (AState.new { s with base := ⟨s.next, []⟩ } (.cells x.av)) (.row pre.length)) (.cells zeroC.av), AState.set (AState.new (AState.new (AState.new { s with base := ⟨s.next, []⟩ } (.cells x.av)) (.row pre.length)) (.cells zeroC.av)) (s.next + 2) (.cells zeroC.av)] [some 9, some 9, some 9, some 9, some 9, some 9, some 9, some 9, some 9, some 9, none, none, some 9] mixed ?_; simp only [zeroC, h3, g0, hT3,  ↓EX, EY, ↓EH, push_cast, ↓EPM, ↓reduceIte, seval, reduceCtorEq]
              refine qcallC (hm) rfl (by simp only [push_cast, ↓EPM, ↓reduceIte, seval, reduceCtorEq] <;> rfl) ?_; simp only [↓EX, EY, ↓EH, push_cast, ↓EPM, ↓reduceIte, seval, reduceCtorEq]
              simp only [resC, zeroC, h4, hT4, rowsA_tail, ↓EX, EY, ↓EH, push_cast, ↓EPM, ↓reduceIte, seval, reduceCtorEq]
              rw [show putR pre (y :: t) x = none by simp [putR, hk, hmc]]
              exact RetW [.v (.slice none 0 0), i64 6] [.sl 9 [] .none, i64 6]
            | some c =>
              rw [hmc] at hm
              simp only [push_cast, ↓EPM, ↓reduceIte, seval, reduceCtorEq]
              refine chainA [(AState.new (AState.new { s with base := ⟨s.next, []⟩ } (.cells x.av)) (.row pre.length)), AState.new (AState.new (AState.new { s with base := ⟨s.next, []⟩ } (.cells x.av)) (.row pre.length)) (.cells zeroC.av), AState.set (AState.new (AState.new (AState.new { s with base := ⟨s.next, []⟩ } (.cells x.av)) (.row pre.length)) (.cells zeroC.av)) (s.next + 2) (.cells c.av)] [some 9, some 9, some 9, some 9, some 9, some 9, some 9, some 9, some 9, some 9, none, none, some 9] mixed ?_; simp only [zeroC, h3, g0, hT3,  ↓EX, EY, ↓EH, push_cast, ↓EPM, ↓reduceIte, seval, reduceCtorEq]
              refine qcallC (hm) rfl (by simp only [push_cast, ↓EPM, ↓reduceIte, seval, reduceCtorEq] <;> rfl) ?_; simp only [↓EX, EY, ↓EH, push_cast, ↓EPM, ↓reduceIte, seval, reduceCtorEq]
              simp only [resC, zeroC, h4, hT4, rowsA_tail, ↓EX, EY, ↓EH, push_cast, ↓EPM, ↓reduceIte, seval, reduceCtorEq]
              refine ⟨by omega, by omega, ?_⟩
              rw [show putR pre (y :: t) x = some (pre ++ ⟨x.k, c⟩ :: t) by simp [putR, hk, hmc]]
              exact RetW [.sl 9 ((rowsA pre ++ [Row.av ⟨x.k, c⟩]) ++ rowsA t) (.row (s.next + 1) (pre.length + 1 + t.length)), i64 0] [.sl 9 (rowsA (pre ++ ⟨x.k, c⟩ :: t)) .none, i64 0] (hw := by simp only [WvL, rowsA_cons, rowsA_append, List.append_assoc, push_cast, ↓EPM, ↓reduceIte, seval, reduceCtorEq])
          · have hk' : decide (y.k = x.k) = false := by simp [hk]
            rw [hk']
            simp only [push_cast, ↓EPM, ↓reduceIte, seval, reduceCtorEq]
            refine ⟨by omega, by omega, ?_⟩
            rw [show putR pre (y :: t) x = some (pre ++ x :: y :: t) by simp [putR, hk]]
            exact RetW [.sl 9 (rowsA pre ++ [x.av] ++ rowsA (y :: t)) (.row (s.next + 1) (pre.length + 1 + (t.length + 1))), i64 0] [.sl 9 (rowsA (pre ++ x :: y :: t)) .none, i64 0] (hw := by simp only [WvL, rowsA_cons, rowsA_append, List.append_assoc, push_cast, ↓EPM, ↓reduceIte, seval, reduceCtorEq])

/-- A row put into others, behind all that are less. -/
def putL (l : List Row) (x : Row) : Option (List Row) := putR (l.takeWhile fun r => decide (cmpK r.k x.k < 0)) (l.dropWhile fun r => decide (cmpK r.k x.k < 0)) x

theorem mem_takeWhile {α : Type} {p : α → Bool} : ∀ {l : List α} {a : α}, a ∈ l.takeWhile p → p a = true
  | b :: l, a, h => by
    rw [List.takeWhile_cons] at h
    split at h
    · rename_i hb
      rcases List.mem_cons.1 h with rfl | h
      · exact hb
      · exact mem_takeWhile h
    · cases h
theorem head_dropWhile {α : Type} {p : α → Bool} : ∀ {l : List α} {y : α} {t : List α}, l.dropWhile p = y :: t → p y = false
  | b :: l, y, t, h => by
    rw [List.dropWhile_cons] at h
    split at h
    · exact head_dropWhile h
    · rename_i hb
      cases h
      simpa using hb

theorem put_spec (l : List Row) (x : Row) (hl : l.length ≤ 1000000) : APure Try.prog 51 [.sl 9 (rowsA l) .none, .agg x.av] (resP (putL l x)) := by
  have h := put_pr (l.takeWhile fun r => decide (cmpK r.k x.k < 0)) (l.dropWhile fun r => decide (cmpK r.k x.k < 0)) x
    (fun r hr => by simpa using mem_takeWhile hr) (fun y t e => by simpa using head_dropWhile e)
  rw [List.takeWhile_append_dropWhile] at h
  exact h hl

end Go.Proofs

namespace Go.Proofs
open Go Go.Av
set_option linter.unusedSimpArgs false
set_option linter.unusedVariables false
set_option maxRecDepth 30000
set_option maxHeartbeats 1000000

/-- The rows of facts, put one by one. -/
def putAll : List Row → List Row → Option (List Row)
  | acc, [] => some acc
  | acc, x :: l => (putL acc x).bind fun a => putAll a l
def factRow (f : Fact) : Row := ⟨f.k, ⟨1, f.v, f.v, f.v⟩⟩

theorem putR_len {pre rest : List Row} {x : Row} {l : List Row} (h : putR pre rest x = some l) : l.length ≤ pre.length + rest.length + 1 := by
  unfold putR at h
  split at h
  · cases h; simp
  · split at h
    · obtain ⟨c, _, rfl⟩ := Option.map_eq_some_iff.1 h
      simp
    · cases h; simp; omega
theorem putL_len {l m : List Row} {x : Row} (h : putL l x = some m) : m.length ≤ l.length + 1 := by
  have h1 := putR_len h
  have h2 : (l.takeWhile fun r => decide (cmpK r.k x.k < 0)).length + (l.dropWhile fun r => decide (cmpK r.k x.k < 0)).length = l.length := by
    rw [← List.length_append, List.takeWhile_append_dropWhile]
  omega

theorem rof_list (l : List Fact) (hl : l.length ≤ 1000) : APure Try.prog 16 [.sl 6 (factsA l) .none] (resP (putAll [] (l.map factRow))) := by
  intro s
  generalize hr : putAll [] (l.map factRow) = r
  refine enterA ⟨[]⟩ (Try.f16.body.getD .skip) [.tmp 2, .tmp 3] Try.func16 fun hwf hbel => ?_; simp only [Try.f16, push_cast, ↓EPM, ↓reduceIte, seval, reduceCtorEq]
  refine ALoop_inv (ι := Nat × List Row) (fun i => i.1 ≤ l.length ∧ i.2.length ≤ i.1 ∧ r = putAll i.2 ((l.drop i.1).map factRow)) (fun i => envL [(0, .sl 6 (factsA l) .none), (4, .sl 9 (rowsA i.2) .none), (5, i64 i.1)]) (fun _ => { s with base := ⟨s.next, []⟩ }) (fun i => l.length - i.1) (0, []) ⟨Nat.zero_le _, Nat.le_refl _, by rw [← hr]; rfl⟩ (ent rfl ?_) (fun i hi => ?_)
  · simp only [push_cast, ↓EPM, ↓reduceIte, seval, reduceCtorEq]
  · obtain ⟨i, acc⟩ := i
    obtain ⟨hi, ha, hs⟩ := hi
    simp only at hi ha hs
    by_cases hlt : i < l.length
    · obtain ⟨x, hx⟩ : ∃ x, l[i]? = some x := ⟨_, List.getElem?_eq_getElem hlt⟩
      have gx := factsA_get hx
      rw [drop_get hx, List.map_cons, putAll] at hs
      have hc : ((i : Int) < (l.length : Int)) := by omega
      have h0 : (0 : Int) ≤ (i : Int) := by omega
      have hw : IntKind.i64.wrap ((i : Int) + 1) = (i : Int) + 1 := wrap_in (by omega) (by omega)
      have hp := put_spec acc (factRow x) (by omega)
      simp only [hc, push_cast, ↓EPM, ↓reduceIte, seval, reduceCtorEq]
      refine drawA mixed ?_; simp only [hc, h0, gx, push_cast, ↓EPM, ↓reduceIte, seval, reduceCtorEq]
      refine qcall (rof_spec x.v) rfl (by simp only [push_cast, ↓EPM, ↓reduceIte, seval, reduceCtorEq] <;> rfl) ?_; simp only [push_cast, ↓EPM, ↓reduceIte, seval, reduceCtorEq]
      refine qcall (hp) rfl (by simp only [push_cast, ↓EPM, ↓reduceIte, seval, reduceCtorEq] <;> rfl) ?_; simp only [push_cast, ↓EPM, ↓reduceIte, seval, reduceCtorEq]
      cases hq : putL acc (factRow x) with
      | none =>
        simp only [resP, push_cast, ↓EPM, ↓reduceIte, seval, reduceCtorEq]
        rw [show r = none by rw [hs, hq]; rfl]
        exact RetW [.v (.slice none 0 0), i64 6] [.sl 9 [] .none, i64 6]
      | some a =>
        have := putL_len hq
        simp only [resP, hw, push_cast, ↓EPM, ↓reduceIte, seval, reduceCtorEq]
        refine round_next (i + 1, a) ⟨by simp only; omega, by simp only; omega, by rw [hs, hq]; rfl⟩ (by simp only; omega) (ent rfl ?_)
        simp only [push_cast, ↓EPM, ↓reduceIte, seval, reduceCtorEq]
    · have hc : ¬ ((i : Int) < (l.length : Int)) := by omega
      simp only [hc, push_cast, ↓EPM, ↓reduceIte, seval, reduceCtorEq]
      rw [show r = some acc by rw [hs, List.drop_eq_nil_of_le (by omega)]; rfl]
      exact RetP [.sl 9 (rowsA acc) .none, i64 0]

end Go.Proofs

namespace Go.Proofs
open Go Go.Av
set_option linter.unusedSimpArgs false
set_option linter.unusedVariables false
set_option maxRecDepth 30000
set_option maxHeartbeats 1000000

theorem made_spec (l : List Row) (hl : l.length ≤ 1000000) : APure Try.prog 24 [.sl 9 (rowsA l) .none] (segA (if rightL none l then some l else none)) := by
  intro s
  have h := srows_spec l hl
  cases hr : rightL none l with
  | true =>
    rw [hr] at h
    simp only [if_true, resS] at h
    refine enterA ⟨[]⟩ (Try.f24.body.getD .skip) [.tmp 2] Try.func24 fun hwf hbel => ?_; simp only [Try.f24, push_cast, ↓EPM, ↓reduceIte, seval, reduceCtorEq]
    refine h.use ?_
    simp only [push_cast, ↓EPM, ↓reduceIte, seval, reduceCtorEq]
    exact RetP [segA (some l)]
  | false =>
    rw [hr] at h
    simp only [if_false, Bool.false_eq_true, resS] at h
    refine enterA ⟨[]⟩ (Try.f24.body.getD .skip) [.tmp 2] Try.func24 fun hwf hbel => ?_; simp only [Try.f24, push_cast, ↓EPM, ↓reduceIte, seval, reduceCtorEq]
    refine h.use ?_
    simp only [push_cast, ↓EPM, ↓reduceIte, seval, reduceCtorEq]
    exact RetP [segA none]

end Go.Proofs

namespace Go.Proofs
open Go Go.Av
set_option linter.unusedSimpArgs false
set_option linter.unusedVariables false
set_option maxRecDepth 30000
set_option maxHeartbeats 2000000

def bothL : List Row → List Row → Option (List Row)
  | [], b => some b
  | x :: a, [] => some (x :: a)
  | x :: a, y :: b =>
    if 0 < cmpK x.k y.k then (bothL (x :: a) b).map (y :: ·)
    else if cmpK x.k y.k = 0 then (mergeC x.c y.c).bind fun c => (bothL a b).map (⟨x.k, c⟩ :: ·)
    else (bothL a (y :: b)).map (x :: ·)
  termination_by a b => a.length + b.length

def resB : Option (List Row) → AV
  | some l => .tup [.sl 9 (rowsA l) .none, boo true]
  | none => .tup [.sl 9 [] .none, boo false]

theorem both_spec (a b : List Row) (hl : a.length + b.length ≤ 1000000) : APure Try.prog 57 [.sl 9 (rowsA a) .none, .sl 9 (rowsA b) .none] (resB (bothL a b)) := by
  intro s
  generalize hr : bothL a b = r
  have hz : (0 : Int) ≤ (a.length : Int) + (b.length : Int) := by omega
  have hw0 : IntKind.i64.wrap ((a.length : Int) + (b.length : Int)) = (a.length : Int) + (b.length : Int) := wrap_in (by omega) (by omega)
  have hz2 : ((a.length : Int) + (b.length : Int)) * 104 ≤ 140737488355328 := by omega
  have hz3 : ((a.length : Int) + (b.length : Int)) ≤ 140737488355328 := by omega
  refine enterA ⟨[16]⟩ (Try.f57.body.getD .skip) [.tmp 4, .tmp 5] Try.func57 fun hwf hbel => ?_; simp only [hw0, hz, hz2, hz3,Try.f57, push_cast, ↓EPM, ↓reduceIte, seval, reduceCtorEq]
  refine ALoop_inv (ι := List Row × List Row × List Row) (fun i => i.1.length + i.2.1.length + i.2.2.length ≤ a.length + b.length ∧ r = (bothL i.1 i.2.1).map (i.2.2 ++ ·)) (fun i => envL [(0, .sl 9 (rowsA i.1) .none), (1, .sl 9 (rowsA i.2.1) .none), (6, .sl 9 (rowsA i.2.2) (.row s.next i.2.2.length))]) (fun i => AState.new { s with base := ⟨s.next, []⟩ } (.row i.2.2.length)) (fun i => i.1.length + i.2.1.length) (a, b, []) ⟨by simp, by rw [← hr]; simp⟩ (ent rfl ?_) (fun i hi => ?_)
  · simp only [push_cast, ↓EPM, ↓reduceIte, seval, reduceCtorEq]
  · obtain ⟨a', b', out⟩ := i
    obtain ⟨hle, hs⟩ := hi
    simp only at hle hs
    cases a' with
    | nil =>
      simp only [List.length_nil] at hle
      simp only [push_cast, ↓EPM, ↓reduceIte, seval, reduceCtorEq]
      refine ⟨by omega, ?_⟩
      rw [show r = some (out ++ b') by rw [hs, bothL]; rfl]
      exact RetW [.sl 9 (rowsA out ++ rowsA b') (.row s.next (out.length + b'.length)), boo true] [.sl 9 (rowsA (out ++ b')) .none, boo true] (hw := by simp only [WvL, rowsA_append, push_cast, ↓EPM, ↓reduceIte, seval, reduceCtorEq])
    | cons x a1 =>
      have hx : ¬ ((a1.length : Int) + 1 = 0) := by omega
      cases b' with
      | nil =>
        simp only [List.length_nil, List.length_cons] at hle
        simp only [hx, push_cast, ↓EPM, ↓reduceIte, seval, reduceCtorEq]
        refine ⟨by omega, ?_⟩
        rw [show r = some (out ++ x :: a1) by rw [hs, bothL]; rfl]
        exact RetW [.sl 9 (rowsA out ++ rowsA (x :: a1)) (.row s.next (out.length + (a1.length + 1))), boo true] [.sl 9 (rowsA (out ++ x :: a1)) .none, boo true] (hw := by simp only [WvL, rowsA_append, push_cast, ↓EPM, ↓reduceIte, seval, reduceCtorEq])
      | cons y b1 =>
        simp only [List.length_cons] at hle
        have hy : ¬ ((b1.length : Int) + 1 = 0) := by omega
        have hx0 : (0 : Int) < (a1.length : Int) + 1 := by omega
        have hy0 : (0 : Int) < (b1.length : Int) + 1 := by omega
        have hx1 : (1 : Int) ≤ (a1.length : Int) + 1 := by omega
        have hy1 : (1 : Int) ≤ (b1.length : Int) + 1 := by omega
        have gx : (rowsA (x :: a1)).getD 0 [] = x.av := rfl
        have gy : (rowsA (y :: b1)).getD 0 [] = y.av := rfl
        have tx : ((a1.length : Int) + 1).toNat = a1.length + 1 := by omega
        have ty : ((b1.length : Int) + 1).toNat = b1.length + 1 := by omega
        simp only [hx, hy, hx0, gx, push_cast, ↓EPM, ↓reduceIte, seval, reduceCtorEq]
        refine drawA mixed ?_; simp only [hx0, hy0, gx, gy, push_cast, ↓EPM, ↓reduceIte, seval, reduceCtorEq]
        refine qcall (fcmp_spec x.k y.k) rfl (by simp only [push_cast, ↓EPM, ↓reduceIte, seval, reduceCtorEq] <;> rfl) ?_; simp only [push_cast, ↓EPM, ↓reduceIte, seval, reduceCtorEq]
        by_cases h1 : 0 < cmpK x.k y.k
        · simp only [h1, hx0, hy0, hx1, hy1, gx, gy, tx, ty, rowsA_tail, push_cast, ↓EPM, ↓reduceIte, seval, reduceCtorEq]
          refine ⟨by omega, ?_⟩
          refine round_next (x :: a1, b1, out ++ [y]) ⟨by simp only [List.length_append, List.length_cons, List.length_nil]; omega, by rw [hs, bothL, if_pos h1]; cases bothL (x :: a1) b1 <;> simp⟩ (by simp only [List.length_cons]; omega) (AEnt_drop rfl rfl (Nat.le_succ _) ⟨by simp only [EO]; omega, fun id hid => by simp only [EO] at hid ⊢; (repeat' split) <;> first | rfl | omega | (subst_vars; simp_all)⟩ ((hwf.base _).new trivial) (EntB_all ?_))
          simp only [rowsA_append, rowsA_cons, push_cast, ↓EPM, ↓reduceIte, seval, reduceCtorEq]
          (try first | omega | ((repeat' apply And.intro) <;> first | omega | (simp only [push_cast, ↓EPM, ↓reduceIte, seval, reduceCtorEq, List.mem_cons, List.not_mem_nil, or_false, forall_eq_or_imp, forall_eq, and_self, true_and, and_true, zeroR]; done) | (simp only [push_cast, ↓EPM, ↓reduceIte, seval, reduceCtorEq, List.mem_cons, List.not_mem_nil, or_false, forall_eq_or_imp, forall_eq, and_self, true_and, and_true, zeroR]; omega)))
        · by_cases h2 : cmpK x.k y.k = 0
          · have hm := merge_spec x.c y.c
            cases hmc : mergeC x.c y.c with
            | none =>
              rw [hmc] at hm
              simp only [h1, h2, hx0, hy0, hx1, hy1, gx, gy, tx, ty, rowsA_tail, push_cast, ↓EPM, ↓reduceIte, seval, reduceCtorEq]
              refine chainA [(AState.set (AState.new (AState.new { s with base := ⟨s.next, []⟩ } (.row out.length)) (.cells zeroR.av)) (s.next + 1) (.cells x.av)), AState.new (AState.set (AState.new (AState.new { s with base := ⟨s.next, []⟩ } (.row out.length)) (.cells zeroR.av)) (s.next + 1) (.cells x.av)) (.cells zeroC.av), AState.set (AState.new (AState.set (AState.new (AState.new { s with base := ⟨s.next, []⟩ } (.row out.length)) (.cells zeroR.av)) (s.next + 1) (.cells x.av)) (.cells zeroC.av)) (s.next + 2) (.cells zeroC.av)] [some 9, some 9, some 9, some 9, some 9, some 9, some 9, some 9, some 9, some 9, some 9, some 9, none, none, some 9] mixed ?_; simp only [zeroC, hx0, hy0, gx, gy,  ↓EX, EY, ↓EH, push_cast, ↓EPM, ↓reduceIte, seval, reduceCtorEq]
              refine qcallC (hm) rfl (by simp only [push_cast, ↓EPM, ↓reduceIte, seval, reduceCtorEq] <;> rfl) ?_; simp only [↓EX, EY, ↓EH, push_cast, ↓EPM, ↓reduceIte, seval, reduceCtorEq]
              simp only [resC, zeroC, ↓EX, EY, ↓EH, push_cast, ↓EPM, ↓reduceIte, seval, reduceCtorEq]
              rw [show r = none by rw [hs, bothL, if_neg h1, if_pos h2, hmc]; rfl]
              exact RetW [.v (.slice none 0 0), boo false] [.sl 9 [] .none, boo false]
            | some c =>
              rw [hmc] at hm
              simp only [h1, h2, hx0, hy0, hx1, hy1, gx, gy, tx, ty, rowsA_tail, push_cast, ↓EPM, ↓reduceIte, seval, reduceCtorEq]
              refine chainA [(AState.set (AState.new (AState.new { s with base := ⟨s.next, []⟩ } (.row out.length)) (.cells zeroR.av)) (s.next + 1) (.cells x.av)), AState.new (AState.set (AState.new (AState.new { s with base := ⟨s.next, []⟩ } (.row out.length)) (.cells zeroR.av)) (s.next + 1) (.cells x.av)) (.cells zeroC.av), AState.set (AState.new (AState.set (AState.new (AState.new { s with base := ⟨s.next, []⟩ } (.row out.length)) (.cells zeroR.av)) (s.next + 1) (.cells x.av)) (.cells zeroC.av)) (s.next + 2) (.cells c.av)] [some 9, some 9, some 9, some 9, some 9, some 9, some 9, some 9, some 9, some 9, some 9, some 9, none, none, some 9] mixed ?_; simp only [zeroC, hx0, hy0, gx, gy,  ↓EX, EY, ↓EH, push_cast, ↓EPM, ↓reduceIte, seval, reduceCtorEq]
              refine qcallC (hm) rfl (by simp only [push_cast, ↓EPM, ↓reduceIte, seval, reduceCtorEq] <;> rfl) ?_; simp only [↓EX, EY, ↓EH, push_cast, ↓EPM, ↓reduceIte, seval, reduceCtorEq]
              simp only [resC, zeroC, hx1, hy1, tx, ty, rowsA_tail, ↓EX, EY, ↓EH, push_cast, ↓EPM, ↓reduceIte, seval, reduceCtorEq]
              refine drawA mixed ?_; simp only [hx0, hy0, hx1, hy1, tx, ty, rowsA_tail, push_cast, ↓EPM, ↓reduceIte, seval, reduceCtorEq]
              refine ⟨by omega, ?_⟩
              refine round_next (a1, b1, out ++ [⟨x.k, c⟩]) ⟨by simp only [List.length_append, List.length_cons, List.length_nil]; omega, by rw [hs, bothL, if_neg h1, if_pos h2, hmc]; cases bothL a1 b1 <;> simp⟩ (by simp only [List.length_cons]; omega) (AEnt_drop rfl rfl (Nat.le_succ _) ⟨by simp only [EO]; omega, fun id hid => by simp only [EO] at hid ⊢; (repeat' split) <;> first | rfl | omega | (subst_vars; simp_all)⟩ ((hwf.base _).new trivial) (EntB_all ?_))
              simp only [rowsA_append, rowsA_cons, push_cast, ↓EPM, ↓reduceIte, seval, reduceCtorEq]
              (try first | omega | ((repeat' apply And.intro) <;> first | omega | (simp only [push_cast, ↓EPM, ↓reduceIte, seval, reduceCtorEq, List.mem_cons, List.not_mem_nil, or_false, forall_eq_or_imp, forall_eq, and_self, true_and, and_true, zeroR]; done) | (simp only [push_cast, ↓EPM, ↓reduceIte, seval, reduceCtorEq, List.mem_cons, List.not_mem_nil, or_false, forall_eq_or_imp, forall_eq, and_self, true_and, and_true, zeroR]; omega)))
          · simp only [h1, h2, hx0, hy0, hx1, hy1, gx, gy, tx, ty, rowsA_tail, push_cast, ↓EPM, ↓reduceIte, seval, reduceCtorEq]
            refine ⟨by omega, ?_⟩
            refine round_next (a1, y :: b1, out ++ [x]) ⟨by simp only [List.length_append, List.length_cons, List.length_nil]; omega, by rw [hs, bothL, if_neg h1, if_neg h2]; cases bothL a1 (y :: b1) <;> simp⟩ (by simp only [List.length_cons]; omega) (AEnt_drop rfl rfl (Nat.le_succ _) ⟨by simp only [EO]; omega, fun id hid => by simp only [EO] at hid ⊢; (repeat' split) <;> first | rfl | omega | (subst_vars; simp_all)⟩ ((hwf.base _).new trivial) (EntB_all ?_))
            simp only [rowsA_append, rowsA_cons, push_cast, ↓EPM, ↓reduceIte, seval, reduceCtorEq]
            (try first | omega | ((repeat' apply And.intro) <;> first | omega | (simp only [push_cast, ↓EPM, ↓reduceIte, seval, reduceCtorEq, List.mem_cons, List.not_mem_nil, or_false, forall_eq_or_imp, forall_eq, and_self, true_and, and_true, zeroR]; done) | (simp only [push_cast, ↓EPM, ↓reduceIte, seval, reduceCtorEq, List.mem_cons, List.not_mem_nil, or_false, forall_eq_or_imp, forall_eq, and_self, true_and, and_true, zeroR]; omega)))

end Go.Proofs

namespace Go.Proofs
open Go Go.Av
set_option linter.unusedSimpArgs false
set_option linter.unusedVariables false
set_option maxRecDepth 30000
set_option maxHeartbeats 2000000

def keysA (l : List Key) : List (List AV) := l.map Key.av
theorem keysA_len (l : List Key) : (keysA l).length = l.length := by simp [keysA]
theorem keysA_app (l m : List Key) : keysA (l ++ m) = keysA l ++ keysA m := by simp [keysA]
theorem keysA_get {l : List Key} {i : Nat} {x : Key} (h : l[i]? = some x) : (keysA l).getD i [] = x.av := by simp [keysA, List.getD_eq_getElem?_getD, h]
theorem keysA_bel (n : Nat) (l : List Key) : (∀ x ∈ keysA l, ∀ c ∈ x, Bel n c) = True := eq_true (by
  intro x hx c hc
  simp only [keysA, List.mem_map] at hx
  obtain ⟨k, _, rfl⟩ := hx
  simp only [Key.av, List.mem_cons, List.not_mem_nil, or_false] at hc
  rcases hc with rfl | rfl | rfl | rfl | rfl <;> exact .v _)
attribute [push_cast] keysA_len keysA_bel
def entA (l : List (Key × Cell)) : List (AV × AV) := l.map fun p => (.agg p.1.av, .agg p.2.av)
theorem entA_len (l : List (Key × Cell)) : (entA l).length = l.length := by simp [entA]

theorem keysOf_spec (m : Nat) : APure Try.prog 49 [.mp m] (.fn 97 [] [.ep [.mp m] 0]) := by
  intro s
  refine enterA ⟨[1]⟩ (Try.f49.body.getD .skip) [.tmp 2] Try.func49 fun hwf hbel => ?_; simp only [Try.f49, push_cast, ↓EPM, ↓reduceIte, seval, reduceCtorEq]
  exact Ret_pure (l := [.fn 97 [] [.ep [.mp m] 0]]) (.inr rfl) rfl (by simp only [push_cast, ↓EPM, ↓reduceIte, seval, reduceCtorEq] <;> rfl) rfl (by first | exact Keeps.base _ _ | (repeat (first | exact Keeps.base _ _ | refine Keeps.new ?_ _ | refine Keeps.set ?_ (by first | (simp; done) | omega | (simp only [EO]; omega)) _))) (by
    have := hbel (.mp m) (by simp)
    simp only [packAV, Bel_fn, List.not_mem_nil, false_implies, implies_true, List.mem_cons, or_false, forall_eq, Bel_ep, true_and]
    exact this)

/-- The box holds the keys that have come. -/
def upd (s : AState) (bx rid : Nat) (l : List Key) : AState := (s.set bx (.cells [.sl 5 (keysA l) (.row rid l.length)])).set rid (.row l.length)

/-- The keys at places. -/
def keysAt (l : List (Key × Cell)) (is : List Nat) : List Key := is.map fun i => ((l[i]?).map (·.1)).getD ⟨0, .empty, .empty, .empty, .empty⟩

theorem keysAt_all {l : List (Key × Cell)} {is : List Nat} (hn : is.Nodup) (hlt : ∀ i ∈ is, i < l.length) (hall : ∀ i, i < l.length → i ∈ is) : (keysAt l is).Perm (l.map (·.1)) := by
  have hp : is.Perm (List.range l.length) := (List.perm_ext_iff_of_nodup hn List.nodup_range).2 fun i => ⟨fun h => List.mem_range.2 (hlt i h), fun h => hall i (List.mem_range.1 h)⟩
  refine (hp.map _).trans (List.Perm.of_eq ?_)
  apply List.ext_getElem (by simp)
  intro i h1 h2
  simp at h2
  simp [h2]

theorem nodup_le {n : Nat} {is : List Nat} (hn : is.Nodup) (hlt : ∀ i ∈ is, i < n) : is.length ≤ n := by
  have hp : is.Perm ((List.range n).filter fun i => decide (i ∈ is)) := (List.perm_ext_iff_of_nodup hn (List.nodup_range.filter _)).2 fun i => by
    simp only [List.mem_filter, List.mem_range, decide_eq_true_eq]
    exact ⟨fun h => ⟨hlt i h, h⟩, fun h => h.2⟩
  have := List.length_filter_le (fun i => decide (i ∈ is)) (List.range n)
  rw [hp.length_eq]
  simpa using this

theorem upd_len {s : AState} {bx rid : Nat} {l : List Key} : (upd s bx rid l).next = s.next ∧ (upd s bx rid l).base = s.base := ⟨rfl, rfl⟩
theorem upd_bx {s : AState} {bx rid : Nat} {l : List Key} (h : bx ≠ rid) : (upd s bx rid l).obj bx = some (.cells [.sl 5 (keysA l) (.row rid l.length)]) := by simp [upd, AState.set, h]
theorem upd_rid {s : AState} {bx rid : Nat} {l : List Key} : (upd s bx rid l).obj rid = some (.row l.length) := by simp [upd, AState.set]
theorem upd_ne {s : AState} {bx rid i : Nat} {l : List Key} (h1 : i ≠ bx) (h2 : i ≠ rid) : (upd s bx rid l).obj i = s.obj i := by simp [upd, AState.set, h1, h2]

theorem Wf_upd {s : AState} {bx rid : Nat} {l : List Key} (h : s.Wf) (h1 : bx < s.next) (h2 : rid < s.next) : (upd s bx rid l).Wf := by
  intro id o ho
  simp only [upd, AState.set] at ho ⊢
  split at ho
  · rename_i e; subst e; cases ho; exact ⟨h2, trivial⟩
  · split at ho
    · rename_i e; subst e; cases ho
      refine ⟨h1, ?_⟩
      intro c hc
      simp only [List.mem_cons, List.not_mem_nil, or_false] at hc
      subst hc
      exact Bel_sl.2 ⟨of_eq_true (keysA_bel _ _), h2⟩
    · exact h id o ho
theorem upd_nil {s : AState} {bx rid : Nat} (h1 : s.obj bx = some (.cells [.sl 5 [] (.row rid 0)])) (h2 : s.obj rid = some (.row 0)) : upd s bx rid [] = s := by
  refine AState.ext' (fun i => ?_) rfl rfl
  simp only [upd, AState.set]
  split
  · rename_i e; subst e; exact h2.symm
  · split
    · rename_i e; subst e; exact h1.symm
    · rfl

theorem u85 : Try.prog.underlying 85 = some (.map 39 44) := by simp only [unders]
theorem u39 : Try.prog.underlying 39 = some (Try.prog.underlying 39).get! := by simp only [unders]; rfl

theorem entA_get {l : List (Key × Cell)} {i : Nat} {q : AV × AV} (h : (entA l)[i]? = some q) : ∃ p, l[i]? = some p ∧ q = (.agg p.1.av, .agg p.2.av) := by
  simp only [entA, List.getElem?_map, Option.map_eq_some_iff] at h
  obtain ⟨p, hp, rfl⟩ := h
  exact ⟨p, hp, rfl⟩
theorem keysAt_len (l : List (Key × Cell)) (is : List Nat) : (keysAt l is).length = is.length := by simp [keysAt]
theorem keysAt_snoc {l : List (Key × Cell)} {is : List Nat} {i : Nat} {p : Key × Cell} (h : l[i]? = some p) : keysAt l (is ++ [i]) = keysAt l is ++ [p.1] := by simp [keysAt, h]

theorem keyIter_spec (l : List (Key × Cell)) (s : AState) (L bx rid m : Nat) (eL : Env) (ps : List Nat) (nt : Nat) (asg body : Code) (D : Nat) (hL : s.obj L = some (.loop eL ps nt asg body .ready none D))
    (hbx : s.obj bx = some (.cells [.sl 5 [] (.row rid 0)])) (hrid : s.obj rid = some (.row 0)) (hm : s.obj m = some (.map (entA l))) (hlen : l.length ≤ 1000000)
    (hy : ∀ (s' : AState) (acc : List Key) (x : Key), s'.obj L = some (.loop eL ps nt asg body .ready none D) → s'.obj bx = some (.cells [.sl 5 (keysA acc) (.row rid acc.length)]) → s'.obj rid = some (.row acc.length) → acc.length < l.length →
      AYield Try.prog L [.agg x.av] s' (fun d s'' => d = boo true ∧ s'' = upd s' bx rid (acc ++ [x]))) :
    ACalls Try.prog 97 [.yl L, .ep [.mp m] 0] s (fun d s' => d = .tup [] ∧ ∃ ks : List Key, ks.Perm (l.map (·.1)) ∧ s' = upd s bx rid ks) := by
  have n1 : L ≠ bx := by rintro rfl; rw [hL] at hbx; cases hbx
  have n2 : L ≠ rid := by rintro rfl; rw [hL] at hrid; cases hrid
  have n3 : bx ≠ rid := by rintro rfl; rw [hbx] at hrid; cases hrid
  have n4 : m ≠ bx := by rintro rfl; rw [hm] at hbx; cases hbx
  have n5 : m ≠ rid := by rintro rfl; rw [hm] at hrid; cases hrid
  refine enterA ⟨[]⟩ (Try.f97.body.getD .skip) [] Try.func97 fun hwf hbel => ?_; simp only [Try.f97, push_cast, ↓EPM, ↓reduceIte, seval, reduceCtorEq]
  have k1 := (hwf _ _ hL).1
  have k2 := (hwf _ _ hbx).1
  have k3 := (hwf _ _ hrid).1
  have k4 := (hwf _ _ hm).1
  refine range_law (id := m) (es := entA l) u85 rfl hm ?_
  rw [entA_len]
  simp only [push_cast, ↓EPM, ↓reduceIte, seval, reduceCtorEq]
  refine ALoop_inv (ι := List Nat) (fun is => is.Nodup ∧ ∀ i ∈ is, i < l.length) (fun is => envL [(0, .yl L), (1, .ep [.mp m] 0), (5, .ptr s.next 0)]) (fun is => upd (AState.new { s with base := ⟨s.next, []⟩ } (.iter m l.length is)) bx rid (keysAt l is)) (fun is => l.length - is.length) [] ⟨List.nodup_nil, fun _ h => by cases h⟩ ?_ (fun is hi => ?_)
  · rw [show keysAt l [] = [] from rfl, upd_nil (by simp only [AState.new]; rw [if_neg (by omega)]; exact hbx) (by simp only [AState.new]; rw [if_neg (by omega)]; exact hrid)]
    refine ent rfl ?_
    simp only [push_cast, ↓EPM, ↓reduceIte, seval, reduceCtorEq]
  · obtain ⟨hn, hlt⟩ := hi
    have hit : (upd (AState.new { s with base := ⟨s.next, []⟩ } (.iter m l.length is)) bx rid (keysAt l is)).obj s.next = some (.iter m l.length is) := by (simp only [upd, AState.set, AState.new]; (repeat (first | rw [if_neg (by omega)] | rw [if_pos (by omega)] | (simp only [↓reduceIte]; done) | simp only [↓reduceIte])); try rfl)
    have hmm : (upd (AState.new { s with base := ⟨s.next, []⟩ } (.iter m l.length is)) bx rid (keysAt l is)).obj m = some (.map (entA l)) := by (simp only [upd, AState.set, AState.new]; (repeat (first | rw [if_neg (by omega)] | rw [if_pos (by omega)] | (simp only [↓reduceIte]; done) | simp only [↓reduceIte])); try rfl); exact hm
    simp only [push_cast, ↓EPM, ↓reduceIte, seval, reduceCtorEq]
    refine next_law (id := s.next) (m := m) (n := l.length) (seen := is) (es := entA l) rfl hit hmm (entA_len l) (fun hall => ?_) (fun i q hq hni => ?_)
    · simp only [push_cast, ↓EPM, ↓reduceIte, seval, reduceCtorEq]
      refine Ret_drop (S := upd s bx rid (keysAt l is)) (l := []) (m := []) (.inl rfl) rfl rfl trivial rfl rfl (Nat.le_succ _) ?_ (by simp only [packAV, Bel_tup]; simp) ⟨rfl, _, keysAt_all hn hlt hall, rfl⟩
      intro i o ho
      obtain ⟨h1, h2⟩ := Wf_upd hwf k2 k3 i o ho
      refine ⟨h1, h2, ?_⟩
      rw [← ho]
      simp only [upd, AState.set, AState.new] at h1 ⊢
      (repeat' split) <;> first | rfl | omega
    · obtain ⟨p, hp, rfl⟩ := entA_get hq
      simp only [push_cast, ↓EPM, ↓reduceIte, seval, reduceCtorEq]
      refine entry_law (id := s.next) (m := m) (n := l.length) (i := i) (seen := is) (es := entA l) rfl ?_ ?_ (entA_len l) hq ?_
      · (simp only [upd, AState.set, AState.new]; (repeat (first | rw [if_neg (by omega)] | rw [if_pos (by omega)] | (simp only [↓reduceIte]; done) | simp only [↓reduceIte])); try rfl)
      · (simp only [upd, AState.set, AState.new]; (repeat (first | rw [if_neg (by omega)] | rw [if_pos (by omega)] | (simp only [↓reduceIte]; done) | simp only [↓reduceIte])); try rfl); exact hm
      simp only [push_cast, ↓EPM, ↓reduceIte, seval, reduceCtorEq]
      simp only [EZ, EZ0, push_cast, ↓EPM, ↓reduceIte, seval, reduceCtorEq]
      have hil : i < l.length := (List.getElem?_eq_some_iff.1 hp).1
      have hn2 : (is ++ [i]).Nodup := by
        rw [List.nodup_append]; exact ⟨hn, by simp, by intro a ha b hb; simp at hb; subst hb; intro e; subst e; exact hni ha⟩
      have hlt2 : ∀ j ∈ is ++ [i], j < l.length := by
        intro j hj
        rcases List.mem_append.1 hj with hj | hj
        · exact hlt j hj
        · simp at hj; omega
      have hle2 := nodup_le hn2 hlt2
      simp only [List.length_append, List.length_cons, List.length_nil] at hle2
      refine AYield_use (hy _ (keysAt l is) p.1 ?_ ?_ ?_ (by rw [keysAt_len]; omega)) ?_
      · (simp only [upd, AState.set, AState.new]; (repeat (first | rw [if_neg (by omega)] | rw [if_pos (by omega)] | (simp only [↓reduceIte]; done) | simp only [↓reduceIte])); try rfl); exact hL
      · (simp only [upd, AState.set, AState.new]; (repeat (first | rw [if_neg (by omega)] | rw [if_pos (by omega)] | (simp only [↓reduceIte]; done) | simp only [↓reduceIte])); try rfl)
      · (simp only [upd, AState.set, AState.new]; (repeat (first | rw [if_neg (by omega)] | rw [if_pos (by omega)] | (simp only [↓reduceIte]; done) | simp only [↓reduceIte])); try rfl)
      simp only [push_cast, ↓EPM, ↓reduceIte, seval, reduceCtorEq]
      refine round_next (is ++ [i]) ⟨hn2, hlt2⟩ (by simp only [List.length_append, List.length_cons, List.length_nil]; omega) (AEnt_drop rfl rfl (Nat.le_succ _) ?_ (Wf_upd ((hwf.base _).new ?_) (by simp only [AState.new]; omega) (by simp only [AState.new]; omega)) (EntB_all ?_))
      · rw [keysAt_snoc hp]
        refine ⟨by simp only [upd, EO]; omega, fun id hid => ?_⟩
        simp only [upd, AState.set, AState.new] at hid ⊢
        (repeat' split) <;> first | rfl | omega
      · show m < s.next + 1; omega
      simp only [push_cast, ↓EPM, ↓reduceIte, seval, reduceCtorEq]
      try simp only [List.mem_cons, List.not_mem_nil, or_false, forall_eq, upd, EO]
      (try first | omega | ((repeat' apply And.intro) <;> first | omega | (simp only [push_cast, ↓EPM, ↓reduceIte, seval, reduceCtorEq, List.mem_cons, List.not_mem_nil, or_false, forall_eq_or_imp, forall_eq, and_self, true_and, and_true, zeroR]; done) | (simp only [push_cast, ↓EPM, ↓reduceIte, seval, reduceCtorEq, List.mem_cons, List.not_mem_nil, or_false, forall_eq_or_imp, forall_eq, and_self, true_and, and_true, zeroR]; omega)))

end Go.Proofs

/-
  DERIVED: THE SHELF's CONTRACTS AT THIS DUMP, IN PLAIN WORDS (tools/lay-plain.mjs out of 'TryShelf.lean', which tools/lay-shelf.mjs wrote): THE SAME DECLARATIONS UNDER THE SAME NAMES: 'import', 'namespace', 'open', 'def', 'theorem' AND NOTHING ELSE: no command of the shelf's: FOR A HAND-IN. Each laying: the table of numbers ('.._ren') and one theorem, a field a fact of the dump's own or the kernel's comparison; each contract: ONE APPLICATION.
-/
namespace Go.Proofs
open Go.Shelf
def Try.sortL_ren : Go.Shelf.Ren := ⟨fun | 6 => 96 | 15 => 127 | 14 => 126 | 28 => 148 | 29 => 149 | 20 => 140 | 21 => 141 | 22 => 142 | 23 => 143 | 24 => 144 | 25 => 145 | 26 => 146 | 27 => 147 | 46 => 156 | 47 => 157 | 48 => 158 | 49 => 159 | 50 => 160 | 57 => 166 | n => n, fun | 22 => 90 | 24 => 39 | 25 => 95 | 3 => 3 | 39 => 156 | 0 => 0 | 53 => 196 | 55 => 122 | 4 => 4 | 46 => 204 | 45 => 203 | 50 => 111 | 5 => 5 | 9 => 9 | 66 => 215 | 70 => 218 | 76 => 223 | 77 => 224 | n => n, fun | n => n⟩
theorem Try.sortL : Go.Proofs.SlLaysF0.n6 Try.prog Try.sortL_ren := {
  mixed := by kernel_rfl
  f6 := ⟨Try.f96.name, by decide, Try.func96.trans (congrArg some (by kernel_rfl))⟩
  f14 := ⟨Try.f126.name, by decide, Try.func126.trans (congrArg some (by kernel_rfl))⟩
  f15 := Try.func127.trans (congrArg some (by kernel_rfl))
  f20 := ⟨Try.f140.name, by decide, Try.func140.trans (congrArg some (by kernel_rfl))⟩
  f21 := ⟨Try.f141.name, by decide, Try.func141.trans (congrArg some (by kernel_rfl))⟩
  f22 := ⟨Try.f142.name, by decide, Try.func142.trans (congrArg some (by kernel_rfl))⟩
  f23 := ⟨Try.f143.name, by decide, Try.func143.trans (congrArg some (by kernel_rfl))⟩
  f24 := ⟨Try.f144.name, by decide, Try.func144.trans (congrArg some (by kernel_rfl))⟩
  f25 := ⟨Try.f145.name, by decide, Try.func145.trans (congrArg some (by kernel_rfl))⟩
  f26 := ⟨Try.f146.name, by decide, Try.func146.trans (congrArg some (by kernel_rfl))⟩
  f27 := ⟨Try.f147.name, by decide, Try.func147.trans (congrArg some (by kernel_rfl))⟩
  f28 := Try.func148.trans (congrArg some (by kernel_rfl))
  f29 := Try.func149.trans (congrArg some (by kernel_rfl))
  f46 := ⟨Try.f156.name, by decide, Try.func156.trans (congrArg some (by kernel_rfl))⟩
  f47 := Try.func157.trans (congrArg some (by kernel_rfl))
  f48 := Try.func158.trans (congrArg some (by kernel_rfl))
  f49 := ⟨Try.f159.name, by decide, Try.func159.trans (congrArg some (by kernel_rfl))⟩
  f50 := ⟨Try.f160.name, by decide, Try.func160.trans (congrArg some (by kernel_rfl))⟩
  f57 := ⟨Try.f166.name, by decide, Try.func166.trans (congrArg some (by kernel_rfl))⟩
  t0 := Try.underlying0
  a0 := Try.isAgg0
  z0 := Try.sizeOf0
  v0 := Try.zeroValue0
  t3 := Try.underlying3
  a3 := Try.isAgg3
  z3 := Try.sizeOf3
  v3 := Try.zeroValue3
  t4 := Try.underlying4
  a4 := Try.isAgg4
  z4 := Try.sizeOf4
  v4 := Try.zeroValue4
  t5 := Try.underlying5
  a5 := Try.isAgg5
  z5 := Try.sizeOf5
  v5 := Try.zeroValue5
  t9 := Try.underlying9
  a9 := Try.isAgg9
  z9 := Try.sizeOf9
  v9 := Try.zeroValue9
  t22 := Try.underlying90
  a22 := Try.isAgg90
  z22 := Try.sizeOf90
  v22 := Try.zeroValue90
  t25 := Try.underlying95
  a25 := Try.isAgg95
  z25 := Try.sizeOf95
  v25 := Try.zeroValue95
  t39 := Try.underlying156
  a39 := Try.isAgg156
  z39 := Try.sizeOf156
  v39 := Try.zeroValue156
  t45 := Try.underlying203
  a45 := Try.isAgg203
  z45 := Try.sizeOf203
  v45 := Try.zeroValue203
  t46 := Try.underlying204
  a46 := Try.isAgg204
  z46 := Try.sizeOf204
  v46 := Try.zeroValue204
  t50 := Try.underlying111
  a50 := Try.isAgg111
  z50 := Try.sizeOf111
  v50 := Try.zeroValue111
  t53 := Try.underlying196
  a53 := Try.isAgg196
  z53 := Try.sizeOf196
  v53 := Try.zeroValue196
  t55 := Try.underlying122
  a55 := Try.isAgg122
  z55 := Try.sizeOf122
  v55 := Try.zeroValue122
  t66 := Try.underlying215
  a66 := Try.isAgg215
  z66 := Try.sizeOf215
  v66 := Try.zeroValue215
  t70 := Try.underlying218
  a70 := Try.isAgg218
  z70 := Try.sizeOf218
  v70 := Try.zeroValue218
  t76 := Try.underlying223
  a76 := Try.isAgg223
  z76 := Try.sizeOf223
  v76 := Try.zeroValue223
  t77 := Try.underlying224
  a77 := Try.isAgg224
  z77 := Try.sizeOf224
  v77 := Try.zeroValue224 }
end Go.Proofs

namespace Go.Proofs
open Go Go.Av
set_option linter.unusedSimpArgs false
set_option linter.unusedVariables false
set_option maxRecDepth 30000
set_option maxHeartbeats 2000000

theorem nx0 : (∀ n : Nat, (n + 3 = n) = False) ∧ (∀ n : Nat, (n = n + 3) = False) ∧ (∀ n : Nat, (n + 3 = n + 1) = False) ∧ (∀ n : Nat, (n + 1 = n + 3) = False) := by refine ⟨?_, ?_, ?_, ?_⟩ <;> (intro n; apply eq_false; omega)

theorem appendSeq_spec (l : List (Key × Cell)) (s : AState) (m : Nat) (hm : s.obj m = some (.map (entA l))) (hlen : l.length ≤ 1000000) :
    ACalls Try.prog 125 [.v (.slice none 0 0), .fn 97 [] [.ep [.mp m] 0]] s (fun d s' => ∃ ks : List Key, ks.Perm (l.map (·.1)) ∧ d = .sl 5 (keysA ks) (.row (s.next + 1) ks.length) ∧
      s' = { s with obj := fun i => if i = s.next + 1 then some (.row ks.length) else s.obj i, next := s.next + 2 }) := by
  refine ACalls_bodyM (C := ⟨[]⟩) (c := Try.f125.body.getD .skip) (rs := [.tmp 4]) Try.func125 (by kernel_rfl) (by kernel_rfl) (by kernel_rfl) (Nat.le_of_ble_eq_true rfl) (by kernel_rfl) fun hwf hbel => ?_
  simp only [Try.f125, push_cast, ↓EPM, ↓reduceIte, seval, reduceCtorEq]
  have k4 := (hwf _ _ hm).1
  show ACode _ _ _ _ _
  refine ACode_ent ((AEnt_reserve _ _).trans (AEnt_obj (id := s.next) (cs := [.v (.slice none 0 0)]) (cs' := [.sl 5 [] (.row (s.next + 1) 0)]) ?_ ⟨?_, trivial⟩ rfl)) ?_
  · simp [AState.new]
  · exact .inr (.inr ⟨rfl, 5, _, rfl, by decide, .inr (.inr ⟨s.next + 1, rfl, by simp [AState.new]⟩)⟩)
  refine rangeFunc_law (gf := 97) (first := []) (cap := [.ep [.mp m] 0]) rfl fun n hb => ?_
  simp only [codeBel, Bool.and_eq_true] at hb
  obtain ⟨⟨hb1, hb2⟩, hb3⟩ := hb
  refine ACalls_mono ?post (keyIter_spec l _ (s.next + 3) s.next (s.next + 1) m ?eL [7] n ?asg ?body (s.next + 2) ?hL ?hbx ?hrid ?hm hlen ?hy)
  case hL => exact new_self _ _
  case hbx => (simp only [upd, AState.set, AState.new]; (repeat (first | rw [if_neg (by omega)] | rw [if_pos (by omega)] | (simp only [↓reduceIte]; done) | simp only [↓reduceIte])); try rfl)
  case hrid => (simp only [upd, AState.set, AState.new]; (repeat (first | rw [if_neg (by omega)] | rw [if_pos (by omega)] | (simp only [↓reduceIte]; done) | simp only [↓reduceIte])); try rfl)
  case hm => (simp only [upd, AState.set, AState.new]; (repeat (first | rw [if_neg (by omega)] | rw [if_pos (by omega)] | (simp only [↓reduceIte]; done) | simp only [↓reduceIte])); try rfl); exact hm
  case hy =>
    intro s' acc x hL hbx hrid hacc
    refine AYield_body (C := ⟨[]⟩) hL rfl hb1 hb2 hb3 rfl rfl fun hwf' hbel' => ?_
    have q1 := (hwf' _ _ hL).1
    have q2 := (hwf' _ _ hbx).1
    have q3 := (hwf' _ _ hrid).1
    have c1 : ¬ (s.next + 3 = s'.next) := by omega
    have c2 : ¬ (s.next = s'.next) := by omega
    have c3 : ¬ (s.next + 1 = s'.next) := by omega
    have c4 : (((acc.length : Int) + 1) * 72 ≤ 140737488355328) := by omega
    have c5 : ¬ (s'.next = s.next + 3) := by omega
    have c6 : ¬ (s'.next = s.next) := by omega
    have c7 : ¬ (s'.next = s.next + 1) := by omega
    simp only [EZ, EZ0, c1, c2, c3, c5, c6, c7, hL, hbx, hrid, nx0, push_cast, ↓EPM, ↓reduceIte, seval, reduceCtorEq]
    refine ⟨by omega, by (simp only [upd, AState.set, AState.new]; (repeat (first | rw [if_neg (by omega)] | rw [if_pos (by omega)] | (simp only [↓reduceIte]; done) | simp only [↓reduceIte])); try rfl), upd s' s.next (s.next + 1) (acc ++ [x]), AFin_drop rfl rfl (Nat.le_succ _) (fun i o ho => ?_) (.v _), rfl, rfl⟩
    obtain ⟨h1, h2⟩ := Wf_upd hwf' q2 q3 i o ho
    refine ⟨h1, h2, ?_⟩
    rw [← ho]
    simp only [upd, AState.set, AState.new, keysA_app, List.length_append, List.length_cons, List.length_nil] at h1 ⊢
    (repeat' split) <;> first | rfl | omega | (have e : i = s.next + 3 := (by omega); rw [e]; exact hL.symm)
  case post =>
    rintro d s3 ⟨rfl, ks, hp, rfl⟩
    refine ⟨.ready, none, by decide, ?_, ?_⟩
    · (simp only [upd, AState.set, AState.new]; (repeat (first | rw [if_neg (by omega)] | rw [if_pos (by omega)] | (simp only [↓reduceIte]; done) | simp only [↓reduceIte])); try rfl)
    have d1 : ¬ (s.next = s.next + 2) := by omega
    have d2 : ¬ (s.next + 2 = s.next) := by omega
    have d3 : ¬ (s.next + 2 = s.next + 1) := by omega
    have d4 : ¬ (s.next + 1 = s.next + 2) := by omega
    have d5 : ¬ (s.next + 2 = s.next + 3) := by omega
    have d6 : ¬ (s.next = s.next + 1) := by omega
    simp only [jumpQ, upd, AState.mark, AState.del, nx0, d1, d2, d3, d4, d5, d6, push_cast, ↓EPM, ↓reduceIte, seval, reduceCtorEq]
    refine RetM_more (l := [.sl 5 (keysA ks) (.row (s.next + 1) ks.length)]) (m := [.sl 5 (keysA ks) (.row (s.next + 1) ks.length)]) (S := { s with obj := fun i => if i = s.next + 1 then some (.row ks.length) else s.obj i, next := s.next + 2 }) (.inr rfl) (leaveS_one (D := s.next + 1 + 1) rfl (by (simp only [upd, AState.set, AState.new]; (repeat (first | rw [if_neg (by omega)] | rw [if_pos (by omega)] | (simp only [↓reduceIte]; done) | simp only [↓reduceIte])); try rfl))) (by simp only [push_cast, ↓EPM, ↓reduceIte, seval, reduceCtorEq]) ⟨.inl rfl, trivial⟩ (Nat.le_add_right _ _) rfl (by simp only [AState.del]; omega) ?_ ?_ ⟨ks, hp, rfl, rfl⟩
    · intro i o ho
      simp only at ho
      split at ho
      · rename_i e
        subst e
        cases ho
        refine ⟨by show s.next + 1 < s.next + 2; omega, trivial, ?_⟩
        simp only [AState.del]
        ((repeat (first | rw [if_neg (by omega)] | rw [if_pos (by omega)] | (simp only [↓reduceIte]; done) | simp only [↓reduceIte])); try rfl)
      · obtain ⟨h1, h2⟩ := hwf i o ho
        refine ⟨Nat.lt_of_lt_of_le h1 (Nat.le_add_right _ _), h2.mono (Nat.le_add_right _ _), ?_⟩
        simp only [AState.del]
        ((repeat (first | rw [if_neg (by omega)] | rw [if_pos (by omega)] | (simp only [↓reduceIte]; done) | simp only [↓reduceIte])); try rfl)
        exact ho
    · simp only [packAV, Bel_sl, keysA_bel, tokBel, true_and]
      show s.next + 1 < s.next + 2
      omega

end Go.Proofs

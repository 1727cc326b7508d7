/- The hand-made contracts that need nothing printed. -/
import Derived.Test.YtnmglnglbdpjjaaGreatDoorUcH0c
import Derived.Test.YtnmglnglbdpjjaaGreatDoorUcH0d
import Derived.Test.YtnmglnglbdpjjaaGreatDoorUcH0e
import Derived.Test.YtnmglnglbdpjjaaGreatDoorUcBld

